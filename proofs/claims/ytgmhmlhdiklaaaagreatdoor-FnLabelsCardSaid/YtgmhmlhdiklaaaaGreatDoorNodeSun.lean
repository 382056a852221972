/-
  Contracts of the tests on nodes and suns. No conditions.
-/
import Derived.Test.YtgmhmlhdiklaaaaGreatDoorWithin
namespace Go.Proofs.YtgmhmlhdiklaaaaGreatDoor
open Go.RowKit
set_option linter.unusedVariables false

theorem results_tmp4 {fn : Func} {t u v x : Tmp} (h : fn.results = #[.tmp t, .tmp u, .tmp v, .tmp x]) (tmps : Array Value) (P : Program) (w : World) :
    (results fn tmps).run P w = .ok (.tuple #[tmps.getD t undef, tmps.getD u undef, tmps.getD v undef, tmps.getD x undef]) w := by simp [results, h]
theorem inB_of {x lo hi : Int} (h : inB x lo hi = true) : lo ≤ x ∧ x ≤ hi := by simpa [inB] using h
theorem mul_box {a b A B : Int} (h1 : 0 ≤ a) (h2 : a ≤ A) (h3 : -B ≤ b) (h4 : b ≤ B) : -(A * B) ≤ a * b ∧ a * b ≤ A * B := by
  have hB : 0 ≤ B := by omega
  have e1 : a * b ≤ a * B := Int.mul_le_mul_of_nonneg_left h4 h1
  have e2 : a * B ≤ A * B := Int.mul_le_mul_of_nonneg_right h2 hB
  have e3 : a * (-B) ≤ a * b := Int.mul_le_mul_of_nonneg_left h3 h1
  rw [Int.mul_neg] at e3
  omega

def nodeB (x y : Int) : Bool := inB x 0 20 && inB y 0 20
def sunB (a b c : Int) : Bool := inB a (-1000) 1000 && inB b 1 1000 && inB c 1 100

set_option maxHeartbeats 1000000 in
theorem impl_NodeOk (x y : Int) (w : World) :
    Calls Tryz.prog 69 #[.agg #[.int .i64 x, .int .i64 y]] w fun e w' => e = .returned (.bool (nodeB x y)) ∧ Ext w w' := by
  cases hx : inB x 0 20 <;> cases hy : inB y 0 20
  all_goals
    go_enter Tryz.func69, Tryz.ntmps69
    go_wp2_with (go_at_call 26; refine (within_any _ _ _ _).mono ?_; rintro e w' ⟨rfl, g, rfl⟩)
    go_ret
    exact ⟨by simp [nodeB, hx, hy], by repeat (first | exact Ext.refl _ | apply Ext.wgr | apply Ext.drew | apply Ext.drewN | apply Ext.alloc)⟩
set_option maxHeartbeats 1000000 in
theorem spec_NodeOk (x y : Int) (w : World) :
    Calls Tryz.prog 63 #[.agg #[.int .i64 x, .int .i64 y]] w fun e w' => e = .returned (.bool (nodeB x y)) ∧ Ext w w' := by
  cases hx : inB x 0 20 <;> cases hy : inB y 0 20
  all_goals
    go_enter Tryz.func63, Tryz.ntmps63
    go_wp2_with (go_at_call 45; refine (l01In_any _ _ _ _).mono ?_; rintro e w' ⟨rfl, g, rfl⟩)
    go_ret
    exact ⟨by simp [nodeB, hx, hy], by repeat (first | exact Ext.refl _ | apply Ext.wgr | apply Ext.drew | apply Ext.drewN | apply Ext.alloc)⟩
end Go.Proofs.YtgmhmlhdiklaaaaGreatDoor
