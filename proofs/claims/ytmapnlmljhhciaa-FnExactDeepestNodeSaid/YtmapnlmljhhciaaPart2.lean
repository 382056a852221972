/-
  Rows of 2 integers, filled one by one. Plain lists.
-/
import Derived.Test.YtmapnlmljhhciaaKitE
namespace Go.Proofs.Ytmapnlmljhhciaa
open Go.RowKit
set_option linter.unusedVariables false

def part2 (n : Nat) (f : Nat → Nat → Int) (i : Nat) : List Int := tab (n * 2) fun q => if q < i * 2 then f (q / 2) (q % 2) else 0
theorem part2_set {n i : Nat} {f : Nat → Nat → Int} (hi : i < n) : ((part2 n f i).set (i * 2) (f i 0)).set (i * 2 + 1) (f i 1) = part2 n f (i + 1) := by
  apply List.ext_getElem (by simp [part2, tab])
  intro q h1 h2
  have hq : q < n * 2 := by simpa [part2, tab] using h2
  simp only [List.getElem_set, part2, tab, List.getElem_map, List.getElem_range]
  by_cases e1 : i * 2 + 1 = q
  · subst e1
    rw [if_pos rfl, if_pos (by omega), show (i * 2 + 1) / 2 = i by omega, show (i * 2 + 1) % 2 = 1 by omega]
  · rw [if_neg e1]
    by_cases e0 : i * 2 = q
    · subst e0
      rw [if_pos rfl, if_pos (by omega), show (i * 2) / 2 = i by omega, show (i * 2) % 2 = 0 by omega]
    · rw [if_neg e0]
      by_cases lt : q < i * 2
      · rw [if_pos lt, if_pos (by omega)]
      · rw [if_neg lt, if_neg (by omega)]
theorem part2_full {n : Nat} {f : Nat → Nat → Int} : part2 n f n = flat 2 n f := by
  unfold part2 flat
  apply List.map_congr_left
  intro q hq
  rw [if_pos (by simpa using hq)]
theorem part2_zero (n : Nat) (f : Nat → Nat → Int) : part2 n f 0 = tab (n * 2) fun _ => 0 := by
  unfold part2
  apply List.map_congr_left
  intro q hq
  rw [if_neg (by omega)]

end Go.Proofs.Ytmapnlmljhhciaa
