/-
  Contracts of the tests on bars: a strictly rising list in a range. No conditions.
-/
import Derived.Test.YtgmhmlhdiklaaaaRising
namespace Go.Proofs.Ytgmhmlhdiklaaaa
open Go.RowKit
set_option linter.unusedVariables false

def barsB (n : Nat) (f : Nat → Nat → Int) : Bool := decide (n ≤ 10) && risB n f 0 20
set_option maxHeartbeats 2000000 in
theorem impl_BarsOk (A : Option Addr) (n c : Nat) (f : Nat → Nat → Int) (hn : n ≤ 9223372036854775807) (w : World) (hr : Recs w 1 A n f) :
    Calls Try.prog 12 #[.slice A n c] w fun e w' => e = .returned (.bool (barsB n f)) ∧ Ext w w' := by
  by_cases h : n ≤ 10
  all_goals
    go_enter Try.func12, Try.ntmps12
    go_wp2_with (go_at_call 52; refine (impl_rising _ _ _ _ _ _ hn _ hr).mono ?_; rintro e w' ⟨rfl, g, rfl⟩)
    go_ret
    exact ⟨by simp [barsB, h], by repeat (first | exact Ext.refl _ | apply Ext.wgr | apply Ext.drew | apply Ext.drewN | apply Ext.alloc)⟩

end Go.Proofs.Ytgmhmlhdiklaaaa
