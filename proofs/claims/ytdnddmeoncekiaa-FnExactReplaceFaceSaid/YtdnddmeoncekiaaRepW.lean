/-
  What is known where a face may be replaced. Plain.
-/
import Derived.Test.YtdnddmeoncekiaaSixV
namespace Go.Proofs.Ytdnddmeoncekiaa
open Go.RowKit Ring
set_option linter.unusedVariables false

theorem may_get {n : Nat} {P : Nat → Nat → Int} {m : Nat} {L : Nat → Nat → Int} {nh : Nat} {fh : Nat → Nat → Int} {f s : Int} (h : mayB n P m L nh fh f s = true) : 0 ≤ f ∧ f ≤ (nh : Int) - 1 ∧ ∀ i, i < nh → 0 ≤ fh i 0 ∧ fh i 0 ≤ 3000 := by
  unfold mayB at h
  rw [Bool.and_eq_true] at h
  have h1 := h.1
  unfold mayG at h1
  simp only [Bool.and_eq_true] at h1
  have h2 := inB_of h1.1.1.2
  exact ⟨h2.1, h2.2, (histB_get h1.1.1.1).2.2⟩

end Go.Proofs.Ytdnddmeoncekiaa
