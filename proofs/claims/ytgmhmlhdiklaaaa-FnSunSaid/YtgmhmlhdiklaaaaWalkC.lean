/-
  Contracts of the spot of light. Each returns what the Lean function of its name computes, and at most makes new memory. No conditions.
-/
import Derived.Test.YtgmhmlhdiklaaaaNodeSun
namespace Go.Proofs.Ytgmhmlhdiklaaaa
open Go.RowKit
set_option linter.unusedVariables false

theorem spot_bd {x y k a b c : Int} (hn : nodeB x y = true) (hs : sunB a b c = true) (hk : inB k 0 1000 = true) :
    (0 ≤ x ∧ x ≤ 20 ∧ 0 ≤ y ∧ y ≤ 20 ∧ -1000 ≤ a ∧ a ≤ 1000 ∧ 1 ≤ b ∧ b ≤ 1000 ∧ 1 ≤ c ∧ c ≤ 100 ∧ 0 ≤ k ∧ k ≤ 1000) ∧ (-20000 ≤ x * b ∧ x * b ≤ 20000) ∧ (-1020000 ≤ (k + y) * a ∧ (k + y) * a ≤ 1020000) ∧ (-102000 ≤ (k + y) * c ∧ (k + y) * c ≤ 102000) := by
  simp only [nodeB, sunB, Bool.and_eq_true] at hn hs
  have h1 := inB_of hn.1
  have h2 := inB_of hn.2
  have h3 := inB_of hs.1.1
  have h4 := inB_of hs.1.2
  have h5 := inB_of hs.2
  have h6 := inB_of hk
  have e1 := mul_box (a := x) (b := b) (A := 20) (B := 1000) (by omega) (by omega) (by omega) (by omega)
  have e2 := mul_box (a := k + y) (b := a) (A := 1020) (B := 1000) (by omega) (by omega) (by omega) (by omega)
  have e3 := mul_box (a := k + y) (b := c) (A := 1020) (B := 100) (by omega) (by omega) (by omega) (by omega)
  omega

set_option maxHeartbeats 1000000 in
theorem impl_SpotOf_yes (x y k a b c : Int) (hn : nodeB x y = true) (hs : sunB a b c = true) (hk : inB k 0 1000 = true) (w : World) :
    Calls Try.prog 22 #[.agg #[.int .i64 x, .int .i64 y], .int .i64 k, .agg #[.int .i64 a, .int .i64 b, .int .i64 c]] w fun e w' =>
      e = .returned (.tuple #[.int .i64 (x * b + (k + y) * a), .int .i64 ((k + y) * c), .int .i64 b, .bool true]) ∧ Ext w w' := by
  obtain ⟨b1, b2, b3, b4⟩ := spot_bd hn hs hk
  go_enter Try.func22, Try.ntmps22
  go_wp2_with (first | (go_at_call 61; refine (impl_NodeOk _ _ _).mono ?_; rintro e w' ⟨rfl, g, rfl⟩) | (go_at_call 26; refine (impl_SunOk _ _ _ _).mono ?_; rintro e w' ⟨rfl, g, rfl⟩) | (go_at_call 50; refine (within_any _ _ _ _).mono ?_; rintro e w' ⟨rfl, g, rfl⟩))
  go_quiet (fail)
  go_wp2
  refine bodyPost_ret (results_tmp4 rfl _ _ _) rfl ⟨rfl, ?_⟩
  repeat (first | exact Ext.refl _ | apply Ext.wgr | apply Ext.drew | apply Ext.drewN | apply Ext.alloc)
set_option maxHeartbeats 1000000 in
theorem impl_SpotOf_no (x y k a b c : Int) (h : (nodeB x y && sunB a b c && inB k 0 1000) = false) (w : World) :
    Calls Try.prog 22 #[.agg #[.int .i64 x, .int .i64 y], .int .i64 k, .agg #[.int .i64 a, .int .i64 b, .int .i64 c]] w fun e w' =>
      e = .returned (.tuple #[.int .i64 0, .int .i64 0, .int .i64 0, .bool false]) ∧ Ext w w' := by
  cases hn : nodeB x y <;> cases hs : sunB a b c <;> cases hk : inB k 0 1000
  all_goals first
    | (exfalso; rw [hn, hs, hk] at h; simp at h; done)
    | (clear h
       go_enter Try.func22, Try.ntmps22
       go_wp2_with (first | (go_at_call 61; refine (impl_NodeOk _ _ _).mono ?_; rintro e w' ⟨rfl, g, rfl⟩) | (go_at_call 26; refine (impl_SunOk _ _ _ _).mono ?_; rintro e w' ⟨rfl, g, rfl⟩) | (go_at_call 50; refine (within_any _ _ _ _).mono ?_; rintro e w' ⟨rfl, g, rfl⟩))
       refine bodyPost_ret (results_tmp4 rfl _ _ _) rfl ⟨rfl, ?_⟩
       repeat (first | exact Ext.refl _ | apply Ext.wgr | apply Ext.drew | apply Ext.drewN | apply Ext.alloc))

def roomB (x y k a b c d : Int) : Bool := (nodeB x y && sunB a b c && inB k 0 1000) && inB d 0 1000 && decide ((k + y) * c ≤ d * b)

set_option maxHeartbeats 2000000 in
theorem impl_IsInRoom (x y k a b c d : Int) (w : World) :
    Calls Try.prog 25 #[.agg #[.int .i64 x, .int .i64 y], .int .i64 k, .agg #[.int .i64 a, .int .i64 b, .int .i64 c], .int .i64 d] w fun e w' => e = .returned (.bool (roomB x y k a b c d)) ∧ Ext w w' := by
  cases h : (nodeB x y && sunB a b c && inB k 0 1000)
  · go_enter Try.func25, Try.ntmps25
    go_wp2_with (go_at_call 22; refine (impl_SpotOf_no _ _ _ _ _ _ h _).mono ?_; rintro e w' ⟨rfl, g, rfl⟩)
    go_ret
    exact ⟨by simp [roomB, h], by repeat (first | exact Ext.refl _ | apply Ext.wgr | apply Ext.drew | apply Ext.drewN | apply Ext.alloc)⟩
  · have h' := h
    simp only [Bool.and_eq_true] at h'
    obtain ⟨⟨hn, hs⟩, hk⟩ := h'
    obtain ⟨b1, b2, b3, b4⟩ := spot_bd hn hs hk
    cases hd : inB d 0 1000
    · go_enter Try.func25, Try.ntmps25
      go_wp2_with (first | (go_at_call 22; refine (impl_SpotOf_yes _ _ _ _ _ _ hn hs hk _).mono ?_; rintro e w' ⟨rfl, g, rfl⟩) | (go_at_call 50; refine (within_any _ _ _ _).mono ?_; rintro e w' ⟨rfl, g, rfl⟩))
      go_ret
      exact ⟨by simp [roomB, hd], by repeat (first | exact Ext.refl _ | apply Ext.wgr | apply Ext.drew | apply Ext.drewN | apply Ext.alloc)⟩
    · have hd' := inB_of hd
      have b5 := mul_box (a := d) (b := b) (A := 1000) (B := 1000) (by omega) (by omega) (by omega) (by omega)
      have b6 : -1000000 ≤ d * b ∧ d * b ≤ 1000000 := by omega
      clear b5
      by_cases hle : (k + y) * c ≤ d * b
      all_goals
        go_enter Try.func25, Try.ntmps25
        go_wp2_with (first | (go_at_call 22; refine (impl_SpotOf_yes _ _ _ _ _ _ hn hs hk _).mono ?_; rintro e w' ⟨rfl, g, rfl⟩) | (go_at_call 50; refine (within_any _ _ _ _).mono ?_; rintro e w' ⟨rfl, g, rfl⟩))
        go_ret
        exact ⟨by simp [roomB, hd, hle, hn, hs, hk], by repeat (first | exact Ext.refl _ | apply Ext.wgr | apply Ext.drew | apply Ext.drewN | apply Ext.alloc)⟩

end Go.Proofs.Ytgmhmlhdiklaaaa
