/-
  Rows of 3 integers, filled one by one. Plain lists.
-/
import Derived.Test.YthnngekibkcgdaaKitE
namespace Go.Proofs.Ythnngekibkcgdaa
open Go.RowKit
set_option linter.unusedVariables false

def part3 (n : Nat) (f : Nat → Nat → Int) (i : Nat) : List Int := tab (n * 3) fun q => if q < i * 3 then f (q / 3) (q % 3) else 0
theorem part3_set {n i : Nat} {f : Nat → Nat → Int} (hi : i < n) : (((part3 n f i).set (i * 3) (f i 0)).set (i * 3 + 1) (f i 1)).set (i * 3 + 2) (f i 2) = part3 n f (i + 1) := by
  apply List.ext_getElem (by simp [part3, tab])
  intro q h1 h2
  have hq : q < n * 3 := by simpa [part3, tab] using h2
  simp only [List.getElem_set, part3, tab, List.getElem_map, List.getElem_range]
  by_cases e2 : i * 3 + 2 = q
  · subst e2
    rw [if_pos rfl, if_pos (by omega), show (i * 3 + 2) / 3 = i by omega, show (i * 3 + 2) % 3 = 2 by omega]
  · rw [if_neg e2]
    by_cases e1 : i * 3 + 1 = q
    · subst e1
      rw [if_pos rfl, if_pos (by omega), show (i * 3 + 1) / 3 = i by omega, show (i * 3 + 1) % 3 = 1 by omega]
    · rw [if_neg e1]
      by_cases e0 : i * 3 = q
      · subst e0
        rw [if_pos rfl, if_pos (by omega), show (i * 3) / 3 = i by omega, show (i * 3) % 3 = 0 by omega]
      · rw [if_neg e0]
        by_cases lt : q < i * 3
        · rw [if_pos lt, if_pos (by omega)]
        · rw [if_neg lt, if_neg (by omega)]
theorem part3_full {n : Nat} {f : Nat → Nat → Int} : part3 n f n = flat 3 n f := by
  unfold part3 flat
  apply List.map_congr_left
  intro q hq
  rw [if_pos (by simpa using hq)]
theorem part3_zero (n : Nat) (f : Nat → Nat → Int) : part3 n f 0 = tab (n * 3) fun _ => 0 := by
  unfold part3
  apply List.map_congr_left
  intro q hq
  rw [if_neg (by omega)]

end Go.Proofs.Ythnngekibkcgdaa
