/-
  What 'has' says of a row made by picking. Plain.
-/
import Derived.Test.YtgmhmlhdiklaaaaCodeA
import Derived.Test.YtgmhmlhdiklaaaaInts
namespace Go.Proofs.Ytgmhmlhdiklaaaa
open Go.RowKit
set_option linter.unusedVariables false

theorem hasB_mem {l : List Int} {z : Int} (h : z ∈ l) : hasB l.length (fun j _ => ix l j) z = true := by
  obtain ⟨j, hj, e⟩ := List.getElem_of_mem h
  exact hasB_yes hj (by show ix l j = z; rw [ix_get hj]; exact e)
theorem hasB_not {l : List Int} {z : Int} (h : ¬ z ∈ l) : hasB l.length (fun j _ => ix l j) z = false := by
  refine hasB_no fun j hj e => h ?_
  have e' : ix l j = z := e
  rw [ix_get hj] at e'
  rw [← e']
  exact List.getElem_mem hj
theorem has_pick {n k : Nat} {g : Nat → Bool} (hk : k < n) : hasB (pick n g).length (fun j _ => ix (pick n g) j) (k : Int) = g k := by
  cases e : g k
  · refine hasB_not fun h => ?_
    obtain ⟨j, _, h2, h3⟩ := pick_mem.1 h
    have : j = k := by omega
    subst this
    rw [e] at h2; cases h2
  · exact hasB_mem (pick_mem.2 ⟨k, hk, e, rfl⟩)
end Go.Proofs.Ytgmhmlhdiklaaaa
