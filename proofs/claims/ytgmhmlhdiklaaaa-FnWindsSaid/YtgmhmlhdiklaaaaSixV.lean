/-
  What the laws on wind, history and replacement answer. Plain.
-/
import Derived.Test.YtgmhmlhdiklaaaaSmaM
import Derived.Test.YtgmhmlhdiklaaaaGeoM
import Derived.Test.YtgmhmlhdiklaaaaWhoM
import Derived.Test.YtgmhmlhdiklaaaaInts
namespace Go.Proofs.Ytgmhmlhdiklaaaa
open Go.RowKit Ring
set_option linter.unusedVariables false

def origG (n : Nat) (P : Nat → Nat → Int) (m : Nat) (L : Nat → Nat → Int) (fh : Nat → Nat → Int) (t : Nat) : Int := if fh t 0 = 0 then max 0 (faceA n P m L t) else 0
def origV (n : Nat) (P : Nat → Nat → Int) (m : Nat) (L : Nat → Nat → Int) (nh : Nat) (fh : Nat → Nat → Int) : Int := if histB n P m L nh fh = true then psum (origG n P m L fh) nh else -1
def mayG (n : Nat) (P : Nat → Nat → Int) (m : Nat) (L : Nat → Nat → Int) (nh : Nat) (fh : Nat → Nat → Int) (f s : Int) : Bool := histB n P m L nh fh && inB f 0 ((nh : Int) - 1) && !decide (f = outerV n P m L) && inB s 0 100
def mayB (n : Nat) (P : Nat → Nat → Int) (m : Nat) (L : Nat → Nat → Int) (nh : Nat) (fh : Nat → Nat → Int) (f s : Int) : Bool := mayG n P m L nh fh f s && (!decide (fh f.toNat 0 = 0) || decide (s * totalV n P m L ≤ 100 * (origV n P m L nh fh - areaV n P m L f)))
def replB (n : Nat) (P : Nat → Nat → Int) (m : Nat) (L : Nat → Nat → Int) (nh : Nat) (fh : Nat → Nat → Int) (f y s : Int) : Bool := mayB n P m L nh fh f s && inB y 1 3000 && decide (fh f.toNat 0 ≤ y)
def replL (n : Nat) (P : Nat → Nat → Int) (m : Nat) (L : Nat → Nat → Int) (nh : Nat) (fh : Nat → Nat → Int) (f y s : Int) : List Int := if replB n P m L nh fh f y s = true then (tab nh fun k => fh k 0).set f.toNat y else tab nh fun k => fh k 0
def weakP (n : Nat) (P : Nat → Nat → Int) (m : Nat) (L : Nat → Nat → Int) (p t : Int) (k : Nat) : Bool := decide (0 < faceA n P m L k) && decide (500 * t * t < faceA n P m L k * p)
def weakV (n : Nat) (P : Nat → Nat → Int) (m : Nat) (L : Nat → Nat → Int) (p t : Int) : List Int := if (inB p 0 1000 && inB t 1 20) = true then pick (facesV n P m L).length (weakP n P m L p t) else []
def mostA (n : Nat) (P : Nat → Nat → Int) (m : Nat) (L : Nat → Nat → Int) : Nat → Int
  | 0 => 0
  | t + 1 => max (mostA n P m L t) (faceA n P m L t)
/-- The best pressure over the first t faces. -/
def bestA (C : Int) (n : Nat) (P : Nat → Nat → Int) (m : Nat) (L : Nat → Nat → Int) (t : Nat) : Int := if mostA n P m L t = 0 then 1000 else min 1000 (C / mostA n P m L t)
def greatV (n : Nat) (P : Nat → Nat → Int) (m : Nat) (L : Nat → Nat → Int) (t : Int) : Int := if (wholeB n P m L && inB t 1 20) = true then bestA (500 * t * t) n P m L (facesV n P m L).length else -1
section
variable {n m : Nat} {P L : Nat → Nat → Int}
/-- One of the faces is the wall, and only its area is not above zero. -/
theorem wall_only (hw : wholeB n P m L = true) : ∃ k : Nat, k < (facesV n P m L).length ∧ outerV n P m L = k ∧ faceA n P m L k ≤ 0 ∧ ∀ f, f < (facesV n P m L).length → f ≠ k → 0 < faceA n P m L f ∧ areaV n P m L (f : Int) = faceA n P m L f := by
  obtain ⟨hwin, hm, hall⟩ := wholeB_get hw
  obtain ⟨f0, h1, h2⟩ := faces_sign hwin hall hm
  have hF := facesV_yes hw
  have h1' : f0 < (facesV n P m L).length := by rw [hF]; exact h1
  have h3 : ∀ f, f < (facesV n P m L).length → (f = f0 → faceA n P m L f ≤ 0) ∧ (f ≠ f0 → 0 < faceA n P m L f) := by
    intro f hf
    unfold faceA
    rw [hF] at hf ⊢
    exact h2 f hf
  rcases outerV_cases (n := n) (m := m) (P := P) (L := L) with ⟨_, h⟩ | ⟨k, g1, g2, g3, _⟩
  · have := h f0 h1'
    have := (h3 f0 h1').1 rfl
    omega
  · have e : k = f0 := by
      by_cases e : k = f0
      · exact e
      · have := (h3 k g1).2 e
        omega
    refine ⟨k, g1, g2, g3, fun f hf hne => ?_⟩
    have h4 := (h3 f hf).2 (by omega)
    refine ⟨h4, ?_⟩
    rw [areaV_yes hf]
    unfold absI
    omega
theorem orig_out {fh : Nat → Nat → Int} {k : Nat} (h : faceA n P m L k ≤ 0) : origG n P m L fh k = 0 := by
  unfold origG
  split
  · omega
  · rfl
theorem orig_old {fh : Nat → Nat → Int} {k : Nat} (h : ¬ fh k 0 = 0) : origG n P m L fh k = 0 := if_neg h
theorem orig_new {fh : Nat → Nat → Int} {k : Nat} (h : fh k 0 = 0) : origG n P m L fh k = max 0 (faceA n P m L k) := if_pos h
theorem orig_rng {nh : Nat} {fh : Nat → Nat → Int} (hn : nh ≤ (facesV n P m L).length) : ∀ t, t ≤ nh → 0 ≤ psum (origG n P m L fh) t ∧ psum (origG n P m L fh) t ≤ 16000 * (t : Int)
  | 0, _ => ⟨by simp [psum], by simp [psum]⟩
  | t + 1, ht => by
    have h1 := orig_rng (fh := fh) hn t (by omega)
    have h2 := faceA_box (n := n) (m := m) (P := P) (L := L) (k := t) (by omega)
    show 0 ≤ psum _ t + _ ∧ psum _ t + _ ≤ _
    have h3 : 0 ≤ origG n P m L fh t ∧ origG n P m L fh t ≤ 16000 := by
      unfold origG
      split <;> omega
    omega
theorem origV_yes {nh : Nat} {fh : Nat → Nat → Int} (h : histB n P m L nh fh = true) : origV n P m L nh fh = psum (origG n P m L fh) nh := if_pos h
theorem origV_no {nh : Nat} {fh : Nat → Nat → Int} (h : histB n P m L nh fh = false) : origV n P m L nh fh = -1 := if_neg (by rw [h]; simp)
theorem histB_get {nh : Nat} {fh : Nat → Nat → Int} (h : histB n P m L nh fh = true) : wholeB n P m L = true ∧ nh = (facesV n P m L).length ∧ ∀ i, i < nh → 0 ≤ fh i 0 ∧ fh i 0 ≤ 3000 := by
  unfold histB at h
  rw [Bool.and_eq_true, Bool.and_eq_true] at h
  have h1 : (nh : Int) = ((facesV n P m L).length : Nat) := by simpa using h.1.2
  exact ⟨h.1.1, by omega, fun i hi => inB_of (allB_get h.2 hi)⟩
theorem origV_rng (nh : Nat) (fh : Nat → Nat → Int) : -1 ≤ origV n P m L nh fh ∧ origV n P m L nh fh ≤ 320000 := by
  cases h : histB n P m L nh fh
  · rw [origV_no h]; omega
  · rw [origV_yes h]
    obtain ⟨_, h2, _⟩ := histB_get h
    have h3 := faces_len (n := n) (m := m) (P := P) (L := L)
    have := orig_rng (n := n) (m := m) (P := P) (L := L) (fh := fh) (nh := nh) (by omega) nh (Nat.le_refl _)
    omega
theorem mostA_rng : ∀ t, t ≤ (facesV n P m L).length → 0 ≤ mostA n P m L t ∧ mostA n P m L t ≤ 16000
  | 0, _ => ⟨by simp [mostA], by simp [mostA]⟩
  | t + 1, ht => by
    have h1 := mostA_rng t (by omega)
    have h2 := faceA_box (n := n) (m := m) (P := P) (L := L) (k := t) (by omega)
    show 0 ≤ max (mostA n P m L t) (faceA n P m L t) ∧ max (mostA n P m L t) (faceA n P m L t) ≤ 16000
    omega
theorem div_anti {C a b : Int} (hC : 0 ≤ C) (ha : 0 < a) (hab : a ≤ b) : C / b ≤ C / a := by
  have h1 := Int.ediv_nonneg hC (show 0 ≤ b by omega)
  have h2 : C / b * a ≤ C / b * b := Int.mul_le_mul_of_nonneg_left hab h1
  have h3 := Int.ediv_mul_le C (show b ≠ 0 by omega)
  exact (Int.le_ediv_iff_mul_le ha).2 (by omega)
theorem best_zero (C : Int) : bestA C n P m L 0 = 1000 := if_pos rfl
theorem best_out {C : Int} {t : Nat} (h0 : 0 ≤ mostA n P m L t) (h : faceA n P m L t ≤ 0) : bestA C n P m L (t + 1) = bestA C n P m L t := by
  have e : mostA n P m L (t + 1) = mostA n P m L t := by show max _ _ = _; omega
  unfold bestA; rw [e]
theorem best_in {C : Int} {t : Nat} (hC : 0 ≤ C) (h0 : 0 ≤ mostA n P m L t) (h : 0 < faceA n P m L t) : bestA C n P m L (t + 1) = min (bestA C n P m L t) (C / faceA n P m L t) := by
  have e : mostA n P m L (t + 1) = max (mostA n P m L t) (faceA n P m L t) := rfl
  unfold bestA
  rw [e]
  generalize mostA n P m L t = a at *
  generalize faceA n P m L t = b at *
  by_cases ha : a = 0
  · subst ha
    rw [show max 0 b = b by omega, if_neg (by omega), if_pos rfl]
  · by_cases hab : b ≤ a
    · rw [show max a b = a by omega, if_neg ha]
      have := div_anti hC h hab
      omega
    · rw [show max a b = b by omega, if_neg ha, if_neg (by omega)]
      have := div_anti (b := b) hC (show 0 < a by omega) (by omega)
      omega
theorem best_rng {C : Int} (hC : 0 ≤ C) (t : Nat) (ht : t ≤ (facesV n P m L).length) : 0 ≤ bestA C n P m L t ∧ bestA C n P m L t ≤ 1000 := by
  have h := mostA_rng (n := n) (m := m) (P := P) (L := L) t ht
  unfold bestA
  split
  · omega
  · have := Int.ediv_nonneg hC h.1
    omega
theorem weakV_len (p t : Int) : (weakV n P m L p t).length ≤ 20 := by
  unfold weakV
  split
  · exact Nat.le_trans (pick_len _ _) faces_len
  · simp
/-- What the program asks of a face is what the reference asks. -/
theorem weak_same (hw : wholeB n P m L = true) {p t : Int} (hp : 0 ≤ p ∧ p ≤ 1000) (ht : 1 ≤ t ∧ t ≤ 20) {k : Nat} (hk : k < (facesV n P m L).length) :
    weakP n P m L p t k = (!decide ((k : Int) = outerV n P m L) && !bearB (loadV n P m L k p) t) := by
  obtain ⟨j, h1, h2, h3, h4⟩ := wall_only hw
  unfold weakP
  by_cases e : k = j
  · subst e
    rw [h2]
    simp; intro; omega
  · obtain ⟨g1, g2⟩ := h4 k hk e
    have e2 : ¬ ((k : Int) = outerV n P m L) := by rw [h2]; omega
    rw [decide_eq_false e2, decide_eq_true g1]
    have q1 : 0 ≤ areaV n P m L (k : Int) := by rw [g2]; omega
    have hl : loadV n P m L (k : Int) p = faceA n P m L k * p := by
      unfold loadV
      rw [if_pos (by rw [decide_eq_true q1, inB_yes hp]; rfl), g2]
    have q2 := Int.mul_nonneg (show 0 ≤ faceA n P m L k by omega) hp.1
    unfold bearB
    rw [hl, decide_eq_true q2, inB_yes ht]
    by_cases g : faceA n P m L k * p ≤ 500 * t * t
    · simp [g]
    · simp [g]; omega
end

end Go.Proofs.Ytgmhmlhdiklaaaa
