/-
  The law of winds, in plain numbers. Plain.
-/
import Derived.Test.YtgmhmlhdiklaaaaSixV
import Derived.Test.YtgmhmlhdiklaaaaHasL
import Derived.Test.YtgmhmlhdiklaaaaFdx
namespace Go.Proofs.Ytgmhmlhdiklaaaa
open Go.RowKit Ring
set_option linter.unusedVariables false

theorem least_law (v : Int) : leastV v ≠ 0 ∧ leastV v ≤ 20 ∧ -1 ≤ leastV v ∧ (0 < leastV v → bearB v (leastV v) = true) ∧ (1 < leastV v → bearB v (leastV v - 1) = false) ∧ (leastV v < 0 → bearB v 20 = false) := by
  rcases fdx_cases (fun i => bearB v ((i : Int) + 1)) 20 with ⟨h1, h2⟩ | ⟨j, h1, h2, h3, h4⟩
  · have e : leastV v = -1 := by unfold leastV; rw [h2]; rfl
    rw [e]
    exact ⟨by omega, by omega, by omega, by omega, by omega, fun _ => h1 19 (by omega)⟩
  · have e : leastV v = (j : Int) + 1 := by unfold leastV; rw [h4, if_pos (by omega)]
    rw [e]
    refine ⟨by omega, by omega, by omega, fun _ => h2, fun g => ?_, by omega⟩
    have := h3 (j - 1) (by omega)
    have e2 : ((j - 1 : Nat) : Int) + 1 = (j : Int) + 1 - 1 := by omega
    rw [← e2]; exact this
section
variable {n m : Nat} {P L : Nat → Nat → Int}
theorem load_law {f : Nat} (hf : f < (facesV n P m L).length) {p : Int} (hp : 0 ≤ p ∧ p ≤ 1000) : loadV n P m L (f : Int) p = p * areaV n P m L (f : Int) ∧ 0 ≤ areaV n P m L (f : Int) ∧ 0 ≤ p * areaV n P m L (f : Int) ∧ p * areaV n P m L (f : Int) ≤ 16000000 := by
  have ha := areaV_rng (n := n) (m := m) (P := P) (L := L) (f : Int)
  have h0 : 0 ≤ areaV n P m L (f : Int) := by rw [areaV_yes hf]; unfold absI; omega
  have hm := mul_rng h0 ha.2 hp.1 hp.2
  unfold loadV
  rw [if_pos (by rw [inB_yes hp, decide_eq_true h0]; rfl), Int.mul_comm p]
  exact ⟨rfl, h0, hm⟩
theorem most_get : ∀ t, (∀ k, k < t → faceA n P m L k ≤ mostA n P m L t) ∧ 0 ≤ mostA n P m L t ∧ (0 < mostA n P m L t → ∃ k, k < t ∧ faceA n P m L k = mostA n P m L t)
  | 0 => ⟨fun k hk => by omega, by simp [mostA], fun h => by simp [mostA] at h⟩
  | t + 1 => by
    obtain ⟨h1, h2, h3⟩ := most_get t
    have e : mostA n P m L (t + 1) = max (mostA n P m L t) (faceA n P m L t) := rfl
    rw [e]
    refine ⟨fun k hk => ?_, by omega, fun h => ?_⟩
    · by_cases q : k = t
      · subst q; omega
      · have := h1 k (by omega); omega
    · by_cases q : mostA n P m L t ≤ faceA n P m L t
      · exact ⟨t, by omega, by omega⟩
      · obtain ⟨k, k1, k2⟩ := h3 (by omega)
        exact ⟨k, by omega, by omega⟩
theorem pick_len_pos {N : Nat} {g : Nat → Bool} : 0 < (pick N g).length ↔ ∃ k, k < N ∧ g k = true := by
  constructor
  · intro h
    have hm := List.getElem_mem h
    obtain ⟨j, j1, j2, _⟩ := pick_mem.1 hm
    exact ⟨j, j1, j2⟩
  · rintro ⟨k, k1, k2⟩
    exact List.length_pos_of_mem (pick_mem.2 ⟨k, k1, k2, rfl⟩)
theorem weak_pos {p t : Int} (hp : 0 ≤ p ∧ p ≤ 1000) (ht : 1 ≤ t ∧ t ≤ 20) : 0 < (weakV n P m L p t).length ↔ (0 < mostA n P m L (facesV n P m L).length ∧ 500 * t * t < mostA n P m L (facesV n P m L).length * p) := by
  unfold weakV
  rw [if_pos (by rw [inB_yes hp, inB_yes ht]; rfl), pick_len_pos]
  obtain ⟨h1, h2, h3⟩ := most_get (n := n) (m := m) (P := P) (L := L) (facesV n P m L).length
  constructor
  · rintro ⟨k, k1, k2⟩
    unfold weakP at k2
    rw [Bool.and_eq_true, decide_eq_true_iff, decide_eq_true_iff] at k2
    have g := h1 k k1
    have g2 : faceA n P m L k * p ≤ mostA n P m L (facesV n P m L).length * p := Int.mul_le_mul_of_nonneg_right g hp.1
    omega
  · rintro ⟨g1, g2⟩
    obtain ⟨k, k1, k2⟩ := h3 g1
    refine ⟨k, k1, ?_⟩
    unfold weakP
    rw [Bool.and_eq_true, decide_eq_true_iff, decide_eq_true_iff, k2]
    exact ⟨g1, g2⟩
/-- What the law of winds says. -/
theorem wind_law (hw : wholeB n P m L = true) {p t : Int} (hp : 0 ≤ p ∧ p ≤ 510) (ht : 1 ≤ t ∧ t ≤ 20) :
    ∃ M : Int, greatV n P m L t = M ∧ (0 ≤ M ∧ M ≤ 1000) ∧ (weakV n P m L M t).length = 0 ∧ (M ≠ 1000 → 0 < (weakV n P m L (M + 1) t).length) ∧ (0 < (weakV n P m L p t).length ↔ M < p) ∧
      ∀ k, k < (facesV n P m L).length → hasB (weakV n P m L p t).length (fun j _ => ix (weakV n P m L p t) j) (k : Int) = (!decide ((k : Int) = outerV n P m L) && !bearB (loadV n P m L k p) t) := by
  have hC := sq_rng ht.1 ht.2
  have hg : greatV n P m L t = bestA (500 * t * t) n P m L (facesV n P m L).length := by
    unfold greatV; rw [if_pos (by rw [hw, inB_yes ht]; rfl)]
  have hr := best_rng (n := n) (m := m) (P := P) (L := L) hC.1 _ (Nat.le_refl _)
  obtain ⟨h1, h2, h3⟩ := most_get (n := n) (m := m) (P := P) (L := L) (facesV n P m L).length
  have hwp : ∀ q : Int, 0 ≤ q ∧ q ≤ 1000 → (0 < (weakV n P m L q t).length ↔ (0 < mostA n P m L (facesV n P m L).length ∧ 500 * t * t < mostA n P m L (facesV n P m L).length * q)) := fun q hq => weak_pos hq ht
  have hbA : bestA (500 * t * t) n P m L (facesV n P m L).length = if mostA n P m L (facesV n P m L).length = 0 then 1000 else min 1000 (500 * t * t / mostA n P m L (facesV n P m L).length) := rfl
  refine ⟨_, hg, hr, ?_, ?_, ?_, ?_⟩
  · rcases Nat.eq_zero_or_pos (weakV n P m L (bestA (500 * t * t) n P m L (facesV n P m L).length) t).length with q | q
    · exact q
    · exfalso
      have g := (hwp _ hr).1 q
      clear q hwp h3 h1 hg
      generalize bestA (500 * t * t) n P m L (facesV n P m L).length = M at *
      generalize mostA n P m L (facesV n P m L).length = A at *
      generalize 500 * t * t = C at *
      rw [if_neg (by omega)] at hbA
      have e1 := Int.ediv_mul_le C (show A ≠ 0 by omega)
      rw [Int.mul_comm] at e1
      generalize C / A = D at *
      have e2 : A * M ≤ A * D := Int.mul_le_mul_of_nonneg_left (by omega) h2
      omega
  · intro q
    refine (hwp _ (by omega)).2 ?_
    clear hwp h3 h1 hg
    generalize bestA (500 * t * t) n P m L (facesV n P m L).length = M at *
    generalize mostA n P m L (facesV n P m L).length = A at *
    generalize 500 * t * t = C at *
    by_cases z : A = 0
    · rw [if_pos z] at hbA; exact absurd hbA q
    · rw [if_neg z] at hbA
      have e1 := Int.emod_add_mul_ediv C A
      have e2 := Int.emod_lt_of_pos C (show 0 < A by omega)
      generalize C / A = D at *
      have e3 : M = D := by omega
      subst e3
      rw [Int.mul_add, Int.mul_one]
      omega
  · rw [hwp p (by omega)]
    clear hwp h3 h1 hg
    generalize bestA (500 * t * t) n P m L (facesV n P m L).length = M at *
    generalize mostA n P m L (facesV n P m L).length = A at *
    generalize 500 * t * t = C at *
    by_cases z : A = 0
    · rw [if_pos z] at hbA
      rw [z]; omega
    · rw [if_neg z] at hbA
      have e2 : C / A < p ↔ C < p * A := Int.ediv_lt_iff_lt_mul (show 0 < A by omega)
      rw [Int.mul_comm p A] at e2
      generalize A * p = B at *
      generalize C / A = D at *
      constructor
      · rintro ⟨_, g⟩
        have := e2.2 g; omega
      · intro g
        exact ⟨by omega, e2.1 (by omega)⟩
  · intro k hk
    rw [← weak_same hw (p := p) (t := t) (by omega) ht hk]
    unfold weakV
    rw [if_pos (by rw [inB_yes (show 0 ≤ p ∧ p ≤ 1000 by omega), inB_yes ht]; rfl)]
    exact has_pick hk
end
end Go.Proofs.Ytgmhmlhdiklaaaa
