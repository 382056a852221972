/-
  Contracts of what the laws read out of their code: its size, a number out of it; and of the test for membership. No conditions.
-/
import Derived.Test.YtgmhmlhdiklaaaaGreatDoorInts
import Derived.Test.YtgmhmlhdiklaaaaGreatDoorKitD
namespace Go.Proofs.YtgmhmlhdiklaaaaGreatDoor
open Go.RowKit
set_option linter.unusedVariables false

set_option maxHeartbeats 1000000 in
theorem big_any (A : Option Addr) (n c : Nat) (hn : n ≤ 9223372036854775807) (w : World) :
    Calls Tryz.prog 4 #[.slice A n c] w fun e w' => e = .returned (.bool (decide (1048576 < n))) ∧ Ext w w' := by
  go_enter Tryz.func4, Tryz.ntmps4
  go_wp2
  go_ret
  exact ⟨by simp; omega, Ext.refl w⟩
/-- Some number from 0 to 255. -/
def PostAt (w : World) (e : Ending) (w' : World) : Prop := ∃ z : Int, e = .returned (.int .i64 z) ∧ 0 ≤ z ∧ z ≤ 255 ∧ Ext w w'
def hasB (n : Nat) (f : Nat → Nat → Int) (k : Int) : Bool := (List.range n).any fun j => decide (f j 0 = k)
theorem hasB_yes {n : Nat} {f : Nat → Nat → Int} {k : Int} {j : Nat} (hj : j < n) (h : f j 0 = k) : hasB n f k = true := by
  unfold hasB; rw [List.any_eq_true]; exact ⟨j, by simpa using hj, by simpa using h⟩
theorem hasB_no {n : Nat} {f : Nat → Nat → Int} {k : Int} (h : ∀ j, j < n → f j 0 ≠ k) : hasB n f k = false := by
  cases q : hasB n f k
  · rfl
  · unfold hasB at q; rw [List.any_eq_true] at q; obtain ⟨j, hj, e⟩ := q; exact absurd (by simpa using e) (h j (by simpa using hj))
end Go.Proofs.YtgmhmlhdiklaaaaGreatDoor
