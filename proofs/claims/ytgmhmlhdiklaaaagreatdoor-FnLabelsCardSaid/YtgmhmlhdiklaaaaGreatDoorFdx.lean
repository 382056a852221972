/-
  The first place at which a test holds. Plain.
-/
import Derived.Test.YtgmhmlhdiklaaaaGreatDoorKitC
namespace Go.Proofs.YtgmhmlhdiklaaaaGreatDoor
open Go.RowKit
set_option linter.unusedVariables false

/-- The first of the first n places at which g holds; -1 where there is none. -/
def fdx (g : Nat → Bool) : Nat → Int
  | 0 => -1
  | n + 1 => if 0 ≤ fdx g n then fdx g n else if g n = true then (n : Int) else -1
theorem fdx_none {g : Nat → Bool} : ∀ {n : Nat}, (∀ i, i < n → g i = false) → fdx g n = -1
  | 0, _ => rfl
  | n + 1, h => by
    have h1 := fdx_none (g := g) (n := n) (fun i hi => h i (by omega))
    have h2 := h n (by omega)
    show (if 0 ≤ fdx g n then fdx g n else if g n = true then (n : Int) else -1) = -1
    rw [h1, if_neg (by omega), h2]; rfl
theorem fdx_at {g : Nat → Bool} : ∀ {n j : Nat}, j < n → g j = true → (∀ i, i < j → g i = false) → fdx g n = j
  | 0, j, hj, _, _ => by omega
  | n + 1, j, hj, h, hf => by
    show (if 0 ≤ fdx g n then fdx g n else if g n = true then (n : Int) else -1) = j
    by_cases e : j = n
    · subst e; rw [fdx_none hf, if_neg (by omega), if_pos h]
    · rw [fdx_at (n := n) (by omega) h hf, if_pos (by omega)]
theorem fdx_cases (g : Nat → Bool) (n : Nat) : ((∀ i, i < n → g i = false) ∧ fdx g n = -1) ∨ ∃ j : Nat, j < n ∧ g j = true ∧ (∀ i, i < j → g i = false) ∧ fdx g n = j := by
  induction n with
  | zero => left; exact ⟨fun i hi => by omega, rfl⟩
  | succ n ih =>
    rcases ih with ⟨h1, h2⟩ | ⟨j, h1, h2, h3, h4⟩
    · cases e : g n
      · left
        refine ⟨fun i hi => ?_, ?_⟩
        · by_cases q : i = n
          · rw [q]; exact e
          · exact h1 i (by omega)
        · exact fdx_none fun i hi => by
            by_cases q : i = n
            · rw [q]; exact e
            · exact h1 i (by omega)
      · right
        exact ⟨n, by omega, e, h1, fdx_at (by omega) e h1⟩
    · right
      exact ⟨j, by omega, h2, h3, fdx_at (by omega) h2 h3⟩
theorem fdx_bd (g : Nat → Bool) (n : Nat) : -1 ≤ fdx g n ∧ fdx g n < n ∨ fdx g n = -1 := by
  rcases fdx_cases g n with ⟨_, h⟩ | ⟨j, hj, _, _, h⟩
  · right; exact h
  · left; omega

end Go.Proofs.YtgmhmlhdiklaaaaGreatDoor
