/-
  Plain facts on the year: more clouds, less light. No conditions.
-/
import Derived.Test.YtfenofkjnafjcaaWalkD
import Derived.Test.YtfenofkjnafjcaaCodeA
namespace Go.Proofs.Ytfenofkjnafjcaa
open Go.RowKit
set_option linter.unusedVariables false

theorem cloud_val {m x : Int} (hm : 0 ≤ m ∧ m ≤ 11) (hx : 0 ≤ x ∧ x ≤ 60) : cloud m x = if m ≤ 1 ∨ 10 ≤ m then min 95 (35 + x) else min 95 (20 + x) := by
  unfold cloud; rw [if_pos ⟨hm, hx⟩]
theorem cloud_rng {m x : Int} (hm : 0 ≤ m ∧ m ≤ 11) (hx : 0 ≤ x ∧ x ≤ 60) : 20 ≤ cloud m x ∧ cloud m x ≤ 95 := by
  rw [cloud_val hm hx]; split <;> omega
theorem cloud_mono {m x : Int} (hm : 0 ≤ m ∧ m ≤ 11) (hx : 0 ≤ x ∧ x ≤ 59) : cloud m x ≤ cloud m (x + 1) := by
  rw [cloud_val hm (by omega), cloud_val hm (by omega)]; split <;> omega
theorem clear_val {m x : Int} (hm : 0 ≤ m ∧ m ≤ 11) (hx : 0 ≤ x ∧ x ≤ 60) : clear m x = dayLen m * (100 - cloud m x) / 100 ∧ 0 ≤ dayLen m := by
  have := cloud_rng hm hx
  have h : ¬ cloud m x < 0 := by omega
  exact ⟨clear_pos m x h, dayLen_pos h⟩
theorem clear_nonneg {m x : Int} (hm : 0 ≤ m ∧ m ≤ 11) (hx : 0 ≤ x ∧ x ≤ 60) : 0 ≤ clear m x := by
  have h := clear_val hm hx
  have := cloud_rng hm hx
  rw [h.1]
  exact Int.ediv_nonneg (Int.mul_nonneg h.2 (by omega)) (by omega)
theorem clear_day {m x : Int} (hm : 0 ≤ m ∧ m ≤ 11) (hx : 0 ≤ x ∧ x ≤ 60) : clear m x ≤ dayLen m := by
  have h := clear_val hm hx
  have hc := cloud_rng hm hx
  rw [h.1]
  have : dayLen m * (100 - cloud m x) ≤ dayLen m * 100 := Int.mul_le_mul_of_nonneg_left (by omega) h.2
  omega
theorem clear_mono {m x : Int} (hm : 0 ≤ m ∧ m ≤ 11) (hx : 0 ≤ x ∧ x ≤ 59) : clear m (x + 1) ≤ clear m x := by
  have h := clear_val hm (x := x) (by omega)
  have h' := clear_val hm (x := x + 1) (by omega)
  have hc := cloud_mono hm hx
  rw [h.1, h'.1]
  have : dayLen m * (100 - cloud m (x + 1)) ≤ dayLen m * (100 - cloud m x) := Int.mul_le_mul_of_nonneg_left (by omega) h.2
  omega
theorem clear_five {x : Int} (hx : 0 ≤ x ∧ x ≤ 59) : clear 5 (x + 1) < clear 5 x := by
  have h := clear_val (m := 5) (by omega) (x := x) (by omega)
  have h' := clear_val (m := 5) (by omega) (x := x + 1) (by omega)
  have d : dayLen 5 = 990 := by decide
  have c1 : cloud 5 x = 20 + x := by rw [cloud_val (by omega) (by omega), if_neg (by omega)]; omega
  have c2 : cloud 5 (x + 1) = 21 + x := by rw [cloud_val (by omega) (by omega), if_neg (by omega)]; omega
  rw [h.1, h'.1, d, c1, c2]
  omega
theorem psum_le {g h : Nat → Int} : ∀ {n : Nat}, (∀ j, j < n → g j ≤ h j) → psum g n ≤ psum h n
  | 0, _ => Int.le_refl _
  | n + 1, H => by
    have := psum_le (g := g) (h := h) (n := n) (fun j hj => H j (by omega))
    have := H n (by omega)
    show psum g n + g n ≤ psum h n + h n
    omega
theorem psum_lt {g h : Nat → Int} {j : Nat} : ∀ {n : Nat}, j < n → (∀ j, j < n → g j ≤ h j) → g j < h j → psum g n < psum h n
  | 0, hj, _, _ => by omega
  | n + 1, hj, H, hl => by
    have h2 := H n (by omega)
    show psum g n + g n < psum h n + h n
    by_cases e : j = n
    · subst e
      have := psum_le (g := g) (h := h) (n := j) (fun j hj => H j (by omega))
      omega
    · have := psum_lt (g := g) (h := h) (n := n) (j := j) (by omega) (fun j hj => H j (by omega)) hl
      omega
theorem year_lt {x : Int} (hx : 0 ≤ x ∧ x ≤ 59) : yearMin (x + 1) < year x 12 := by
  unfold yearMin
  rw [if_pos (by omega)]
  exact psum_lt (j := 5) (by omega) (fun j hj => by have := clear_mono (m := j) (by omega) hx; omega) (by have := clear_five hx; show clear 5 (x + 1) * 30 < clear 5 x * 30; omega)
theorem best_rng {x : Int} (hx : 0 ≤ x ∧ x ≤ 60) : 0 ≤ best x ∧ best x ≤ 11 := by
  unfold best
  rw [if_pos hx]
  have := bestTo_lt (fun m => clear m x) 12
  omega
theorem best_max {m x : Int} (hm : 0 ≤ m ∧ m ≤ 11) (hx : 0 ≤ x ∧ x ≤ 60) : clear m x ≤ clear (best x) x := by
  unfold best
  rw [if_pos hx]
  have := bestTo_max (g := fun m => clear m x) (k := 12) (j := m.toNat) (by omega)
  rwa [show ((m.toNat : Nat) : Int) = m by omega] at this
theorem above_has {m x y : Int} (hm : 0 ≤ m ∧ m ≤ 11) (hx : 0 ≤ x ∧ x ≤ 60) (h : y ≤ clear m x) : hasB (above x y).length (fun k _ => ix (above x y) k) m = true := by
  have hmem : m ∈ above x y := by
    rw [above_yes hx, pick_mem]
    exact ⟨m.toNat, by omega, by rw [show ((m.toNat : Nat) : Int) = m by omega]; simpa using h, by omega⟩
  obtain ⟨j, hj, e⟩ := List.getElem_of_mem hmem
  exact hasB_yes hj (by rw [ix_get hj]; exact e)
theorem above_none (x : Int) : above x 1000 = [] := by
  unfold above
  split
  · apply List.eq_nil_iff_forall_not_mem.2
    intro z hz
    rw [pick_mem] at hz
    obtain ⟨j, _, hp, _⟩ := hz
    have := clear_bd j x
    simp at hp
    omega
  · rfl
theorem day_five : dayLen 5 = 990 := by decide

end Go.Proofs.Ytfenofkjnafjcaa
