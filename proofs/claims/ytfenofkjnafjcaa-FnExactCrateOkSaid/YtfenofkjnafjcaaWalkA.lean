/-
  Contracts of the small functions of this seat: range test, the length of the day, the share of clouds, clear minutes. Each returns what the Lean function of its name computes, and at most makes new memory. No conditions.
-/
import Derived.Test.YtfenofkjnafjcaaRows
import Derived.Test.YtfenofkjnafjcaaKitA
namespace Go.Proofs.Ytfenofkjnafjcaa
open Go.RowKit
set_option linter.unusedVariables false

def inB (x lo hi : Int) : Bool := decide (lo ≤ x ∧ x ≤ hi)
theorem inB_yes {x lo hi : Int} (h : lo ≤ x ∧ x ≤ hi) : inB x lo hi = true := by simp [inB, h]
theorem inB_no {x lo hi : Int} (h : ¬ (lo ≤ x ∧ x ≤ hi)) : inB x lo hi = false := by simp [inB]; omega

set_option maxHeartbeats 400000 in
theorem within_any (x lo hi : Int) (w : World) :
    Calls Try.prog 76 #[.int .i64 x, .int .i64 lo, .int .i64 hi] w fun e w' => e = .returned (.bool (inB x lo hi)) ∧ Ext w w' := by
  by_cases h1 : lo ≤ x <;> by_cases h2 : x ≤ hi
  all_goals
    go_enter Try.func76, Try.ntmps76
    go_wp2
    go_ret
    exact ⟨by simp [inB, h1, h2], by repeat (first | exact Ext.refl _ | apply Ext.drew | apply Ext.alloc)⟩
set_option maxHeartbeats 400000 in
theorem l01In_any (x lo hi : Int) (w : World) :
    Calls Try.prog 75 #[.int .i64 x, .int .i64 lo, .int .i64 hi] w fun e w' => e = .returned (.bool (inB x lo hi)) ∧ Ext w w' := by
  by_cases h1 : lo ≤ x <;> by_cases h2 : x ≤ hi
  all_goals
    go_enter Try.func75, Try.ntmps75
    go_wp2
    go_ret
    exact ⟨by simp [inB, h1, h2], by repeat (first | exact Ext.refl _ | apply Ext.drew | apply Ext.alloc)⟩
theorem within_yes (x lo hi : Int) (h : lo ≤ x ∧ x ≤ hi) (w : World) :
    Calls Try.prog 76 #[.int .i64 x, .int .i64 lo, .int .i64 hi] w fun e w' => e = .returned (.bool true) ∧ Ext w w' := by
  have := within_any x lo hi w; rwa [inB_yes h] at this
theorem within_no (x lo hi : Int) (h : ¬ (lo ≤ x ∧ x ≤ hi)) (w : World) :
    Calls Try.prog 76 #[.int .i64 x, .int .i64 lo, .int .i64 hi] w fun e w' => e = .returned (.bool false) ∧ Ext w w' := by
  have := within_any x lo hi w; rwa [inB_no h] at this
theorem l01In_yes (x lo hi : Int) (h : lo ≤ x ∧ x ≤ hi) (w : World) :
    Calls Try.prog 75 #[.int .i64 x, .int .i64 lo, .int .i64 hi] w fun e w' => e = .returned (.bool true) ∧ Ext w w' := by
  have := l01In_any x lo hi w; rwa [inB_yes h] at this
theorem l01In_no (x lo hi : Int) (h : ¬ (lo ≤ x ∧ x ≤ hi)) (w : World) :
    Calls Try.prog 75 #[.int .i64 x, .int .i64 lo, .int .i64 hi] w fun e w' => e = .returned (.bool false) ∧ Ext w w' := by
  have := l01In_any x lo hi w; rwa [inB_no h] at this

def dayLen (m : Int) : Int := if 0 ≤ m ∧ m ≤ 11 then ([490, 580, 705, 830, 935, 990, 965, 875, 755, 630, 520, 465] : List Int).getD m.toNat 0 else -1

set_option maxHeartbeats 1000000 in
theorem impl_DayLength (m : Int) (w : World) :
    Calls Try.prog 31 #[.int .i64 m] w fun e w' => e = .returned (.int .i64 (dayLen m)) ∧ Ext w w' := by
  by_cases h : 0 ≤ m ∧ m ≤ 11
  · have h12 : m = 0 ∨ m = 1 ∨ m = 2 ∨ m = 3 ∨ m = 4 ∨ m = 5 ∨ m = 6 ∨ m = 7 ∨ m = 8 ∨ m = 9 ∨ m = 10 ∨ m = 11 := by omega
    rcases h12 with rfl | rfl | rfl | rfl | rfl | rfl | rfl | rfl | rfl | rfl | rfl | rfl
    all_goals
      clear h
      go_enter Try.func31, Try.ntmps31
      go_wp2_with (go_at_call 76; refine (within_yes _ _ _ (by omega) _).mono ?_; rintro e w' ⟨rfl, g, rfl⟩)
      go_ret
      exact ⟨rfl, by repeat (first | exact Ext.refl _ | apply Ext.wgr | apply Ext.drew | apply Ext.alloc)⟩
  · go_enter Try.func31, Try.ntmps31
    go_wp2_with (go_at_call 76; refine (within_no _ _ _ (by omega) _).mono ?_; rintro e w' ⟨rfl, g, rfl⟩)
    go_ret
    exact ⟨by simp [dayLen, h], by repeat (first | exact Ext.refl _ | apply Ext.wgr | apply Ext.drew | apply Ext.alloc)⟩
end Go.Proofs.Ytfenofkjnafjcaa
