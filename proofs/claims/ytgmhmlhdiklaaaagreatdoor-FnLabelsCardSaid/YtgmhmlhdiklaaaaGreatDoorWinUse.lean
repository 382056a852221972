/-
  What a valid window gives. Plain.
-/
import Derived.Test.YtgmhmlhdiklaaaaGreatDoorSpecWinOk
namespace Go.Proofs.YtgmhmlhdiklaaaaGreatDoor
open Go.RowKit
set_option linter.unusedVariables false

theorem winB_get {n m : Nat} {P L : Nat → Nat → Int} (h : winB n P m L = true) : (1 ≤ n ∧ n ≤ 12 ∧ m ≤ 20) ∧ NodesOk n P ∧ ∀ k, k < m → leadAt n P L k = true := by
  unfold winB at h
  rw [Bool.and_eq_true, Bool.and_eq_true, Bool.and_eq_true] at h
  obtain ⟨⟨h1, h2, h3⟩, h4⟩ := h
  unfold sizeB at h1
  rw [Bool.and_eq_true] at h1
  have h5 := inB_of h1.1
  have h6 : m ≤ 20 := by simpa using h1.2
  refine ⟨⟨by omega, by omega, h6⟩, nodesOk_of h2 (fun k hk i hi => ?_), fun k hk => allB_get h4 hk⟩
  have := allB_get (allB_get h3 hk) hi
  simpa using this
theorem winB_ends {n m : Nat} {P L : Nat → Nat → Int} (h : winB n P m L = true) {k : Nat} (hk : k < m) : L k 0 = (fromN L k : Nat) ∧ L k 1 = (toN L k : Nat) ∧ fromN L k < toN L k ∧ toN L k < n :=
  rngB_ends (leadAt_get ((winB_get h).2.2 k hk))
theorem bestTo_in (g : Nat → Int) {k n : Nat} (hk : k < n) : bestTo g k < n := by
  have := bestTo_lt g k; omega
theorem ret_i {k : IntKind} {a b : Int} (h : a = b) : Ending.returned (.int k a) = .returned (.int k b) := by rw [h]

end Go.Proofs.YtgmhmlhdiklaaaaGreatDoor
