/-
  Contracts of the functions of the year. Each returns what the Lean function of its name computes, and at most makes new memory. No conditions.
-/
import Derived.Test.YtfenofkjnafjcaaWalkA
namespace Go.Proofs.Ytfenofkjnafjcaa
open Go.RowKit
set_option linter.unusedVariables false

set_option maxHeartbeats 1000000 in
theorem spec_DayLength (m : Int) (w : World) :
    Calls Try.prog 95 #[.int .i64 m] w fun e w' => e = .returned (.int .i64 (dayLen m)) ∧ Ext w w' := by
  by_cases h : 0 ≤ m ∧ m ≤ 11
  · have h12 : m = 0 ∨ m = 1 ∨ m = 2 ∨ m = 3 ∨ m = 4 ∨ m = 5 ∨ m = 6 ∨ m = 7 ∨ m = 8 ∨ m = 9 ∨ m = 10 ∨ m = 11 := by omega
    rcases h12 with rfl | rfl | rfl | rfl | rfl | rfl | rfl | rfl | rfl | rfl | rfl | rfl
    all_goals
      clear h
      go_enter Try.func95, Try.ntmps95
      go_wp2_with (go_at_call 75; refine (l01In_yes _ _ _ (by omega) _).mono ?_; rintro e w' ⟨rfl, g, rfl⟩)
      go_ret
      exact ⟨rfl, by repeat (first | exact Ext.refl _ | apply Ext.wgr | apply Ext.drew | apply Ext.alloc)⟩
  · go_enter Try.func95, Try.ntmps95
    go_wp2_with (go_at_call 75; refine (l01In_no _ _ _ (by omega) _).mono ?_; rintro e w' ⟨rfl, g, rfl⟩)
    go_ret
    exact ⟨by simp [dayLen, h], by repeat (first | exact Ext.refl _ | apply Ext.wgr | apply Ext.drew | apply Ext.alloc)⟩

theorem dayLen_bd (m : Int) : -1 ≤ dayLen m ∧ dayLen m ≤ 990 := by
  unfold dayLen
  split
  · rename_i h
    have h12 : m = 0 ∨ m = 1 ∨ m = 2 ∨ m = 3 ∨ m = 4 ∨ m = 5 ∨ m = 6 ∨ m = 7 ∨ m = 8 ∨ m = 9 ∨ m = 10 ∨ m = 11 := by omega
    rcases h12 with rfl | rfl | rfl | rfl | rfl | rfl | rfl | rfl | rfl | rfl | rfl | rfl <;> decide
  · omega

def cloud (m w : Int) : Int := if (0 ≤ m ∧ m ≤ 11) ∧ 0 ≤ w ∧ w ≤ 60 then (if m ≤ 1 ∨ 10 ≤ m then min 95 (35 + w) else min 95 (20 + w)) else -1
theorem cloud_bd (m w : Int) : -1 ≤ cloud m w ∧ cloud m w ≤ 95 := by
  unfold cloud
  split
  · split <;> omega
  · omega

theorem ret_int {k : IntKind} {a b : Int} (h : a = b) : Ending.returned (.int k a) = .returned (.int k b) := by rw [h]
set_option maxHeartbeats 1000000 in
theorem impl_CloudShare (m x : Int) (w : World) :
    Calls Try.prog 32 #[.int .i64 m, .int .i64 x] w fun e w' => e = .returned (.int .i64 (cloud m x)) ∧ Ext w w' := by
  by_cases h : 0 ≤ m ∧ m ≤ 11
  · by_cases h2 : 0 ≤ x ∧ x ≤ 60
    · by_cases h3 : m < 2 <;> by_cases h4 : 9 < m
      · omega
      all_goals
        go_enter Try.func32, Try.ntmps32
        go_wp2_with (go_at_call 76; refine (within_yes _ _ _ (by omega) _).mono ?_; rintro e w' ⟨rfl, g, rfl⟩)
        all_goals
          go_ret
          exact ⟨ret_int (by unfold cloud; split <;> (try split) <;> omega), by repeat (first | exact Ext.refl _ | apply Ext.wgr | apply Ext.drew | apply Ext.alloc)⟩
    · go_enter Try.func32, Try.ntmps32
      go_wp2_with (go_at_call 76; first | (refine (within_yes _ _ _ (by omega) _).mono ?_; rintro e w' ⟨rfl, g, rfl⟩) | (refine (within_no _ _ _ (by omega) _).mono ?_; rintro e w' ⟨rfl, g, rfl⟩))
      go_ret
      exact ⟨by simp [cloud, h2], by repeat (first | exact Ext.refl _ | apply Ext.wgr | apply Ext.drew | apply Ext.alloc)⟩
  · go_enter Try.func32, Try.ntmps32
    go_wp2_with (go_at_call 76; refine (within_no _ _ _ (by omega) _).mono ?_; rintro e w' ⟨rfl, g, rfl⟩)
    go_ret
    exact ⟨by simp [cloud, h], by repeat (first | exact Ext.refl _ | apply Ext.wgr | apply Ext.drew | apply Ext.alloc)⟩
set_option maxHeartbeats 1000000 in
theorem spec_CloudShare (m x : Int) (w : World) :
    Calls Try.prog 94 #[.int .i64 m, .int .i64 x] w fun e w' => e = .returned (.int .i64 (cloud m x)) ∧ Ext w w' := by
  by_cases h : 0 ≤ m ∧ m ≤ 11
  · by_cases h2 : 0 ≤ x ∧ x ≤ 60
    · by_cases h3 : m < 2 <;> by_cases h4 : 9 < m
      · omega
      all_goals
        go_enter Try.func94, Try.ntmps94
        go_wp2_with (go_at_call 75; refine (l01In_yes _ _ _ (by omega) _).mono ?_; rintro e w' ⟨rfl, g, rfl⟩)
        all_goals
          go_ret
          exact ⟨ret_int (by unfold cloud; split <;> (try split) <;> omega), by repeat (first | exact Ext.refl _ | apply Ext.wgr | apply Ext.drew | apply Ext.alloc)⟩
    · go_enter Try.func94, Try.ntmps94
      go_wp2_with (go_at_call 75; first | (refine (l01In_yes _ _ _ (by omega) _).mono ?_; rintro e w' ⟨rfl, g, rfl⟩) | (refine (l01In_no _ _ _ (by omega) _).mono ?_; rintro e w' ⟨rfl, g, rfl⟩))
      go_ret
      exact ⟨by simp [cloud, h2], by repeat (first | exact Ext.refl _ | apply Ext.wgr | apply Ext.drew | apply Ext.alloc)⟩
  · go_enter Try.func94, Try.ntmps94
    go_wp2_with (go_at_call 75; refine (l01In_no _ _ _ (by omega) _).mono ?_; rintro e w' ⟨rfl, g, rfl⟩)
    go_ret
    exact ⟨by simp [cloud, h], by repeat (first | exact Ext.refl _ | apply Ext.wgr | apply Ext.drew | apply Ext.alloc)⟩

def clear (m x : Int) : Int := if cloud m x < 0 then -1 else dayLen m * (100 - cloud m x) / 100
theorem clear_neg (m x : Int) (h : cloud m x < 0) : clear m x = -1 := by unfold clear; rw [if_pos h]
theorem clear_pos (m x : Int) (h : ¬ cloud m x < 0) : clear m x = dayLen m * (100 - cloud m x) / 100 := by unfold clear; rw [if_neg h]
theorem mul_bd {d c : Int} (h1 : 0 ≤ d) (h2 : d ≤ 990) (h3 : 0 ≤ c) (h4 : c ≤ 100) : 0 ≤ d * c ∧ d * c ≤ 99000 := by
  refine ⟨Int.mul_nonneg h1 h3, ?_⟩
  have := Int.mul_le_mul h2 h4 h3 (by omega : (0 : Int) ≤ 990)
  omega
theorem dayLen_pos {m x : Int} (h : ¬ cloud m x < 0) : 0 ≤ dayLen m := by
  have h0 : 0 ≤ m ∧ m ≤ 11 := by
    rcases Decidable.em (0 ≤ m ∧ m ≤ 11) with g | g
    · exact g
    · exfalso; apply h; unfold cloud; rw [if_neg (fun p => g p.1)]; decide
  unfold dayLen
  rw [if_pos h0]
  have h12 : m = 0 ∨ m = 1 ∨ m = 2 ∨ m = 3 ∨ m = 4 ∨ m = 5 ∨ m = 6 ∨ m = 7 ∨ m = 8 ∨ m = 9 ∨ m = 10 ∨ m = 11 := by omega
  rcases h12 with rfl | rfl | rfl | rfl | rfl | rfl | rfl | rfl | rfl | rfl | rfl | rfl <;> decide
set_option maxHeartbeats 1000000 in
theorem impl_ClearMinutes (m x : Int) (w : World) :
    Calls Try.prog 30 #[.int .i64 m, .int .i64 x] w fun e w' => e = .returned (.int .i64 (clear m x)) ∧ Ext w w' := by
  have hc := cloud_bd m x
  have hd := dayLen_bd m
  by_cases h : cloud m x < 0
  · have HR := Lib.hid (clear_neg m x h)
    go_enter Try.func30, Try.ntmps30
    go_wp2_with (go_at_call 32; refine (impl_CloudShare _ _ _).mono ?_; rintro e w' ⟨rfl, g, rfl⟩)
    go_ret
    exact ⟨ret_int HR.out.symm, by repeat (first | exact Ext.refl _ | apply Ext.wgr | apply Ext.drew | apply Ext.alloc)⟩
  · have HR := Lib.hid (clear_pos m x h)
    have hp := dayLen_pos h
    have hb := mul_bd hp hd.2 (by omega : 0 ≤ 100 - cloud m x) (by omega)
    go_enter Try.func30, Try.ntmps30
    go_wp2_with (first
      | (go_at_call 32; refine (impl_CloudShare _ _ _).mono ?_; rintro e w' ⟨rfl, g, rfl⟩)
      | (go_at_call 31; refine (impl_DayLength _ _).mono ?_; rintro e w' ⟨rfl, g, rfl⟩))
    go_ret
    exact ⟨ret_int HR.out.symm, by repeat (first | exact Ext.refl _ | apply Ext.wgr | apply Ext.drew | apply Ext.alloc)⟩
set_option maxHeartbeats 1000000 in
theorem spec_ClearMinutes (m x : Int) (w : World) :
    Calls Try.prog 79 #[.int .i64 m, .int .i64 x] w fun e w' => e = .returned (.int .i64 (clear m x)) ∧ Ext w w' := by
  have hc := cloud_bd m x
  have hd := dayLen_bd m
  by_cases h : cloud m x < 0
  · have HR := Lib.hid (clear_neg m x h)
    go_enter Try.func79, Try.ntmps79
    go_wp2_with (go_at_call 94; refine (spec_CloudShare _ _ _).mono ?_; rintro e w' ⟨rfl, g, rfl⟩)
    go_ret
    exact ⟨ret_int HR.out.symm, by repeat (first | exact Ext.refl _ | apply Ext.wgr | apply Ext.drew | apply Ext.alloc)⟩
  · have HR := Lib.hid (clear_pos m x h)
    have hp := dayLen_pos h
    have hb := mul_bd hp hd.2 (by omega : 0 ≤ 100 - cloud m x) (by omega)
    go_enter Try.func79, Try.ntmps79
    go_wp2_with (first
      | (go_at_call 94; refine (spec_CloudShare _ _ _).mono ?_; rintro e w' ⟨rfl, g, rfl⟩)
      | (go_at_call 95; refine (spec_DayLength _ _).mono ?_; rintro e w' ⟨rfl, g, rfl⟩))
    go_ret
    exact ⟨ret_int HR.out.symm, by repeat (first | exact Ext.refl _ | apply Ext.wgr | apply Ext.drew | apply Ext.alloc)⟩
end Go.Proofs.Ytfenofkjnafjcaa
