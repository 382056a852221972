/-
  Are the panes packed: what the answer is. No conditions.
-/
import Derived.Test.YthnngekibkcgdaaCrK
import Derived.Test.YthnngekibkcgdaaCrateC
import Derived.Test.YthnngekibkcgdaaRows
namespace Go.Proofs.Ythnngekibkcgdaa
open Go.RowKit
set_option linter.unusedVariables false

theorem bool_infoK : (Try.prog.info? 4).map (fun i => (i.zero, i.size, i.bytes)) = some (some (.bool false), 1, 1) := by kernel_rfl
theorem madeBoolsK (n : Nat) : (madeCells (Value.bool false).cells (n * 1)).toList = (List.range n).map fun i => Value.bool ((fun _ => false) i) := by
  apply List.ext_getElem (by simp [madeCells])
  intro q h1 h2
  have h0 : q % 1 = 0 := by omega
  simp [madeCells, Value.cells, h0]
/-- The panes met when the first i panes of l have been gone through behind acc; none where one has been met before. -/
def rowS (acc l : List Int) : Nat → Option (List Int)
  | 0 => some acc
  | i + 1 => match rowS acc l i with
    | none => none
    | some a => if ix l i ∈ a then none else some (a ++ [ix l i])
theorem rowS_yes {acc l a : List Int} {i : Nat} (h : rowS acc l i = some a) (h2 : ix l i ∈ a) : rowS acc l (i + 1) = none := by
  rw [rowS, h]; exact if_pos h2
theorem rowS_no {acc l a : List Int} {i : Nat} (h : rowS acc l i = some a) (h2 : ¬ ix l i ∈ a) : rowS acc l (i + 1) = some (a ++ [ix l i]) := by
  rw [rowS, h]; exact if_neg h2
theorem rowS_none {acc l : List Int} {i : Nat} (h : rowS acc l i = none) : ∀ k, i ≤ k → rowS acc l k = none
  | 0, hk => by rw [show i = 0 by omega] at h; exact h
  | k + 1, hk => by
    by_cases e : i = k + 1
    · rw [← e]; exact h
    · rw [rowS, rowS_none h k (by omega)]
theorem rowS_len {acc l : List Int} : ∀ {i : Nat} {a : List Int}, rowS acc l i = some a → a.length = acc.length + i
  | 0, a, h => by injection h with h; rw [h]; rfl
  | i + 1, a, h => by
    cases q : rowS acc l i with
    | none => rw [rowS, q] at h; cases h
    | some b =>
      rw [rowS, q] at h
      have := rowS_len q
      by_cases p : ix l i ∈ b
      · simp [p] at h
      · simp [p] at h
        rw [← h, List.length_append, this]; simp; omega
/-- .. of the first k crates. -/
def allS (n : Nat) (f : Nat → Nat → Int) (l : Nat → List Int) (z : Nat → Int) : Nat → Option (List Int)
  | 0 => some []
  | k + 1 => match allS n f l z k with
    | none => none
    | some a => if crOk n f (l k).length (fun i _ => ix (l k) i) (z k) = true then rowS a (l k) (l k).length else none
section
variable {n : Nat} {f : Nat → Nat → Int} {l : Nat → List Int} {z : Nat → Int}
theorem allS_no {k : Nat} (h : crOk n f (l k).length (fun i _ => ix (l k) i) (z k) = false) : allS n f l z (k + 1) = none := by
  rw [allS]
  cases allS n f l z k with
  | none => rfl
  | some a => simp [h]
theorem allS_yes {k : Nat} {a : List Int} (h : allS n f l z k = some a) (h2 : crOk n f (l k).length (fun i _ => ix (l k) i) (z k) = true) : allS n f l z (k + 1) = rowS a (l k) (l k).length := by
  rw [allS, h]; exact if_pos h2
theorem allS_none {i : Nat} (h : allS n f l z i = none) : ∀ k, i ≤ k → allS n f l z k = none
  | 0, hk => by rw [show i = 0 by omega] at h; exact h
  | k + 1, hk => by
    by_cases e : i = k + 1
    · rw [← e]; exact h
    · rw [allS, allS_none h k (by omega)]
theorem allS_len (hl : ∀ k, (l k).length ≤ 1048576) : ∀ {k : Nat} {a : List Int}, allS n f l z k = some a → a.length ≤ k * 1048576
  | 0, a, h => by injection h with h; rw [← h]; simp
  | k + 1, a, h => by
    cases q : allS n f l z k with
    | none => rw [allS, q] at h; cases h
    | some b =>
      rw [allS, q] at h
      have ih := allS_len hl q
      have := hl k
      by_cases p : crOk n f (l k).length (fun i _ => ix (l k) i) (z k) = true
      · simp [p] at h
        have := rowS_len h
        rw [Nat.succ_mul]; omega
      · simp [p] at h
/-- What ArePacked answers. -/
def pkB (n : Nat) (f : Nat → Nat → Int) (N : Nat) (l : Nat → List Int) (z : Nat → Int) : Bool := match allS n f l z N with
  | none => false
  | some a => decide (a.length = n)
theorem pkB_no {N k : Nat} (h : allS n f l z k = none) (hk : k ≤ N) : pkB n f N l z = false := by
  unfold pkB
  rw [allS_none h N hk]
theorem pkB_yes {N : Nat} {a : List Int} (h : allS n f l z N = some a) : pkB n f N l z = decide (a.length = n) := by
  unfold pkB
  rw [h]
theorem crOk_pane {m : Nat} {p : Nat → Nat → Int} {lim : Int} (h : crOk n f m p lim = true) {i : Nat} (hi : i < m) : 0 ≤ p i 0 ∧ p i 0 ≤ (n : Int) - 1 := by
  cases q : crateB n f m p lim
  · unfold crOk at h
    rw [crateW_no q] at h
    unfold inB at h
    simp at h
  · unfold crateB at q
    rw [Bool.and_eq_true] at q
    exact risB_get q.2 hi
end

end Go.Proofs.Ythnngekibkcgdaa
