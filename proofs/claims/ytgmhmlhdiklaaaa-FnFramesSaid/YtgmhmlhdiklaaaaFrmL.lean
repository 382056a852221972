/-
  The law of frames, in plain numbers. Plain.
-/
import Derived.Test.YtgmhmlhdiklaaaaMomG
import Derived.Test.YtgmhmlhdiklaaaaMidM
import Derived.Test.YtgmhmlhdiklaaaaPanM
import Derived.Test.YtgmhmlhdiklaaaaSixV
import Derived.Test.YtgmhmlhdiklaaaaLenA
namespace Go.Proofs.Ytgmhmlhdiklaaaa
open Go.RowKit Ring
set_option linter.unusedVariables false

section
variable {n m : Nat} {P L : Nat → Nat → Int}
theorem bx_in {l : List Nat} {j : Nat} : ∀ t, t ≤ l.length → ∀ i, i < t → bxLo P l j t ≤ P (l.getD i 0) j ∧ P (l.getD i 0) j ≤ bxHi P l j t
  | 0, _, i, hi => by omega
  | t + 1, ht, i, hi => by
    have ih := bx_in (l := l) (j := j) t (by omega)
    constructor
    · by_cases g : bxLo P l j t < P (l.getD t 0) j
      · rw [bxLo_old g]
        by_cases e : i = t
        · subst e; omega
        · exact (ih i (by omega)).1
      · rw [bxLo_new g]
        by_cases e : i = t
        · subst e; omega
        · have := (ih i (by omega)).1; omega
    · by_cases g : P (l.getD t 0) j < bxHi P l j t
      · rw [bxHi_old g]
        by_cases e : i = t
        · subst e; omega
        · exact (ih i (by omega)).2
      · rw [bxHi_new g]
        by_cases e : i = t
        · subst e; omega
        · have := (ih i (by omega)).2; omega
theorem box_in {k : Nat} (hk : k < (facesV n P m L).length) {j : Nat} : ∀ x ∈ (facesV n P m L).getD k [], loN n P m L (k : Int) j ≤ P (orgN L x) j ∧ P (orgN L x) j ≤ hiN n P m L (k : Int) j := by
  intro x hx
  obtain ⟨i, hi, e⟩ := List.getElem_of_mem hx
  have hp := paneN_yes hk
  have hlen : (paneN n P m L (k : Int)).length = ((facesV n P m L).getD k []).length := by rw [hp, List.length_map]
  have hne : ¬ (paneN n P m L (k : Int)).length = 0 := by omega
  unfold loN hiN
  rw [if_neg hne, if_neg hne]
  have h := bx_in (P := P) (l := paneN n P m L (k : Int)) (j := j) (paneN n P m L (k : Int)).length (Nat.le_refl _) i (by omega)
  have e2 : (paneN n P m L (k : Int)).getD i 0 = orgN L x := by
    rw [hp, List.getD_eq_getElem?_getD, List.getElem?_map, List.getElem?_eq_getElem hi, e]; rfl
  rw [e2] at h
  exact h
theorem momL_lsum (j : Nat) (l : List Nat) : momL P L j l l.length = lsum (momD P L j) l := psum_list _ _
/-- The middle of weight lies over the window. -/
theorem mid_over (hw : wholeB n P m L = true) : ∃ k : Nat, outerV n P m L = k ∧ (0 ≤ totalV n P m L ∧ totalV n P m L ≤ 16000) ∧ (midV n P m L).2.2 = 3 * totalV n P m L ∧
    (loN n P m L k 0 * (3 * totalV n P m L) ≤ (midV n P m L).1 ∧ (midV n P m L).1 ≤ hiN n P m L k 0 * (3 * totalV n P m L)) ∧ (loN n P m L k 1 * (3 * totalV n P m L) ≤ (midV n P m L).2.1 ∧ (midV n P m L).2.1 ≤ hiN n P m L k 1 * (3 * totalV n P m L)) ∧
    (totalV n P m L = 0 → midV n P m L = (0, 0, 0)) := by
  obtain ⟨k, hk, ho, hneg, _⟩ := wall_only hw
  obtain ⟨hwin, hm, hall⟩ := wholeB_get hw
  have hF := facesV_yes hw
  have ht : totalV n P m L = -faceA n P m L k := by
    unfold totalV
    rw [ho, areaV_yes hk]
    unfold absI; omega
  have hb := faceA_box hk
  refine ⟨k, ho, ⟨by omega, by omega⟩, ?_⟩
  by_cases g : totalV n P m L ≤ 0
  · have e : totalV n P m L = 0 := by omega
    rw [midV_no g, e]
    simp
  · have hk' : k < (fcs P L m).length := by rw [← hF]; exact hk
    have hneg' : areaL P L ((fcs P L m).getD k []) ≤ 0 := by
      have := hneg; unfold faceA at this; rw [hF] at this; exact this
    have hmf := fun (j : Nat) (hj : j = 0 ∨ j = 1) => moment_face hwin hall hm hk' hneg' hj (lo := loN n P m L (k : Int) j) (hi := hiN n P m L (k : Int) j) (by rw [← hF]; exact box_in hk)
    have hA : areaL P L ((fcs P L m).getD k []) = faceA n P m L k := by unfold faceA; rw [hF]
    rw [midV_yes (by omega) ho, momL_lsum, momL_lsum]
    rw [hF]
    have h0 := hmf 0 (.inl rfl)
    have h1 := hmf 1 (.inr rfl)
    rw [hA, ← ht] at h0 h1
    have r : ∀ a : Int, a * (3 * totalV n P m L) = 3 * a * totalV n P m L := fun a => by grind
    rw [r, r, r, r]
    exact ⟨rfl, h0, h1, fun q => by omega⟩
theorem force_law {T x lo hi : Int} (hT : 0 < T ∧ T ≤ 16000) (hlo : 0 ≤ lo ∧ lo ≤ 20) (hhi : 0 ≤ hi ∧ hi ≤ 20) (h1 : lo * (3 * T) ≤ x) (h2 : x ≤ hi * (3 * T)) :
    ∃ a b : Int, forceP (T * 2) x (3 * T) lo 4 = (a, b) ∧ forceP (T * 2) x (3 * T) lo 8 = (a, 2 * b) ∧ 0 < b ∧ b ≤ 192000 ∧ 0 ≤ a ∧ a ≤ 512000000000 ∧ 0 ≤ a / b ∧ a / b ≤ 160000 ∧ a ≤ (a / b + 1) * b := by
  have hc : ∀ ap : Int, 1 ≤ ap ∧ ap ≤ 40 → (decide (0 ≤ T * 2) && decide (3 * T ≠ 0) && inB lo 0 20 && inB ap 1 40) = true := fun ap hap => by
    rw [inB_yes hlo, inB_yes hap, decide_eq_true (show 0 ≤ T * 2 by omega), decide_eq_true (show 3 * T ≠ 0 by omega)]; rfl
  have hw0 : 0 ≤ x - lo * (3 * T) := by omega
  have hw1 : x - lo * (3 * T) ≤ 20 * (3 * T) := by
    have e1 : hi * (3 * T) ≤ 20 * (3 * T) := Int.mul_le_mul_of_nonneg_right hhi.2 (by omega)
    have e2 : 0 ≤ lo * (3 * T) := Int.mul_nonneg hlo.1 (by omega)
    omega
  have habs : absI (x - lo * (3 * T)) = x - lo * (3 * T) := by unfold absI; omega
  have ha0 : 0 ≤ T * 2 * (x - lo * (3 * T)) := Int.mul_nonneg (by omega) hw0
  have ha1 : T * 2 * (x - lo * (3 * T)) ≤ 3 * T * 4 * (10 * T) := by
    have e1 : T * 2 * (x - lo * (3 * T)) ≤ T * 2 * (20 * (3 * T)) := Int.mul_le_mul_of_nonneg_left hw1 (by omega)
    have e2 : T * 2 * (20 * (3 * T)) = 3 * T * 4 * (10 * T) := by grind
    omega
  have ha2 : T * 2 * (x - lo * (3 * T)) ≤ 32000 * 960000 := Int.mul_le_mul (by omega) (by omega) hw0 (by omega)
  refine ⟨T * 2 * (x - lo * (3 * T)), 3 * T * 4, ?_, ?_, by omega, by omega, ha0, by omega, Int.ediv_nonneg ha0 (by omega), ?_, ?_⟩
  · rw [forceP_yes (hc 4 (by omega)), habs]
  · rw [forceP_yes (hc 8 (by omega)), habs]
    congr 1; omega
  · have := Int.ediv_le_of_le_mul (show 0 < 3 * T * 4 by omega) (show T * 2 * (x - lo * (3 * T)) ≤ 10 * T * (3 * T * 4) by rw [Int.mul_comm (10 * T)]; exact ha1)
    omega
  · have e := Int.emod_add_mul_ediv (T * 2 * (x - lo * (3 * T))) (3 * T * 4)
    have e2 := Int.emod_lt_of_pos (T * 2 * (x - lo * (3 * T))) (show 0 < 3 * T * 4 by omega)
    rw [Int.add_mul, Int.one_mul, Int.mul_comm (T * 2 * (x - lo * (3 * T)) / (3 * T * 4))]
    omega
theorem hold_yes {a b l : Int} (hb : 0 < b) (hl : 0 ≤ l ∧ l ≤ 1000000) (h : a ≤ l * b) : holdB (a, b) l = true := by
  unfold holdB
  rw [inB_yes hl, decide_eq_true (show 0 < (a, b).2 from hb), decide_eq_true (show (a, b).1 ≤ l * (a, b).2 from h)]; rfl
/-- The length's square, lead by lead. -/
def lsqL (P L : Nat → Nat → Int) (k : Nat) : Int := lsq (P (fromN L k) 0) (P (fromN L k) 1) (P (toN L k) 0) (P (toN L k) 1)
theorem root_key {z : Int} (h0 : 0 ≤ z) : ∀ k : Nat, ∃ q : Nat, q ≤ k ∧ (q : Int) * q ≤ z ∧ (z < ((q : Int) + 1) * ((q : Int) + 1) ∨ q = k)
  | 0 => ⟨0, Nat.le_refl _, by simpa using h0, .inr rfl⟩
  | k + 1 => by
    obtain ⟨q, q1, q2, q3⟩ := root_key h0 k
    rcases q3 with q3 | q3
    · exact ⟨q, by omega, q2, .inl q3⟩
    · subst q3
      by_cases g : ((q + 1 : Nat) : Int) * ((q + 1 : Nat) : Int) ≤ z
      · exact ⟨q + 1, Nat.le_refl _, g, .inr rfl⟩
      · refine ⟨q, by omega, q2, .inl ?_⟩
        have : ((q + 1 : Nat) : Int) = (q : Int) + 1 := by omega
        rw [this] at g; omega
theorem rootF_spec {z : Int} (h0 : 0 ≤ z) (hz : z ≤ 800) : (rootF z 40 : Int) * (rootF z 40 : Int) ≤ z ∧ z < ((rootF z 40 : Int) + 1) * ((rootF z 40 : Int) + 1) := by
  obtain ⟨q, q1, q2, q3⟩ := root_key h0 40
  have q4 : z < ((q : Int) + 1) * ((q : Int) + 1) := by
    rcases q3 with q3 | q3
    · exact q3
    · have := root_le q2 hz; omega
  rw [rootF_eq q2 q4 40 q1]
  exact ⟨q2, q4⟩
theorem lsqL_rng (h : winB n P m L = true) {k : Nat} (hk : k < m) : 1 ≤ lsqL P L k ∧ lsqL P L k ≤ 800 := by
  have he := winB_ends h hk
  have r1 := win_rng h (show fromN L k < n by omega)
  have r2 := win_rng h he.2.2.2
  obtain ⟨g1, g2, g3, g4⟩ := lsq_box ((winB_get h).2.1.1 (fromN L k) (by omega)) ((winB_get h).2.1.1 (toN L k) he.2.2.2)
  have hne : ¬ (P (fromN L k) 0 = P (toN L k) 0 ∧ P (fromN L k) 1 = P (toN L k) 1) := by
    rintro ⟨e1, e2⟩
    have := tt_inj h (show fromN L k < n by omega) he.2.2.2 (by unfold tt; rw [e1, e2])
    omega
  have hb : ∀ z : Int, -20 ≤ z → z ≤ 20 → (0 ≤ z * z ∧ z * z ≤ 400) ∧ (z ≠ 0 → 1 ≤ z * z) := by
    intro z h1 h2
    have n1 : 0 ≤ z * z := by
      rcases Int.lt_or_le z 0 with q | q
      · have := Int.mul_nonneg (show 0 ≤ -z by omega) (show 0 ≤ -z by omega)
        have e : -z * -z = z * z := by grind
        omega
      · exact Int.mul_nonneg q q
    refine ⟨⟨n1, ?_⟩, fun hz => ?_⟩
    · rcases Int.lt_or_le z 0 with q | q
      · have := Int.mul_le_mul (show -z ≤ 20 by omega) (show -z ≤ 20 by omega) (show 0 ≤ -z by omega) (by omega)
        have e : -z * -z = z * z := by grind
        omega
      · have := Int.mul_le_mul (show z ≤ 20 by omega) (show z ≤ 20 by omega) q (by omega)
        omega
    · rcases Int.lt_or_le z 0 with q | q
      · have := Int.mul_le_mul (show 1 ≤ -z by omega) (show 1 ≤ -z by omega) (by omega) (show 0 ≤ -z by omega)
        have e : -z * -z = z * z := by grind
        omega
      · have := Int.mul_le_mul (show 1 ≤ z by omega) (show 1 ≤ z by omega) (by omega) q
        omega
  have b0 := hb (P (fromN L k) 0 - P (toN L k) 0) (by omega) (by omega)
  have b1 := hb (P (fromN L k) 1 - P (toN L k) 1) (by omega) (by omega)
  unfold lsqL lsq
  rcases Int.lt_trichotomy (P (fromN L k) 0) (P (toN L k) 0) with q | q | q
  · have := b0.2 (by omega); omega
  · have := b1.2 (by omega); omega
  · have := b0.2 (by omega); omega
theorem leadLen_spec (h : winB n P m L = true) {k : Nat} (hk : k < m) : 1 ≤ leadLen P L k ∧ leadLen P L k ≤ 28 ∧ leadLen P L k ≤ lsqL P L k ∧ lsqL P L k ≤ 4 * (leadLen P L k * leadLen P L k) := by
  have hr := lsqL_rng h hk
  obtain ⟨s1, s2⟩ := rootF_spec (z := lsqL P L k) (by omega) hr.2
  have hb := root_le s1 hr.2
  show 1 ≤ ((rootF (lsqL P L k) 40 : Nat) : Int) ∧ ((rootF (lsqL P L k) 40 : Nat) : Int) ≤ 28 ∧ ((rootF (lsqL P L k) 40 : Nat) : Int) ≤ lsqL P L k ∧ lsqL P L k ≤ 4 * (((rootF (lsqL P L k) 40 : Nat) : Int) * ((rootF (lsqL P L k) 40 : Nat) : Int))
  generalize rootF (lsqL P L k) 40 = r at *
  have r1 : 1 ≤ (r : Int) := by
    rcases Nat.eq_zero_or_pos r with z | z
    · subst z; simp at s2; omega
    · omega
  have e1 : (r : Int) ≤ r * r := by
    have := Int.mul_le_mul_of_nonneg_right r1 (show 0 ≤ (r : Int) by omega); omega
  have e2 : ((r : Int) + 1) * ((r : Int) + 1) = r * r + 2 * r + 1 := by grind
  refine ⟨r1, by omega, by omega, ?_⟩
  omega
/-- The length of all leads against their squares. -/
theorem lens_law (h : winB n P m L = true) : ∀ t, t ≤ m → (t : Int) ≤ psum (leadLen P L) t ∧ psum (leadLen P L) t ≤ 28 * t ∧ psum (leadLen P L) t ≤ psum (lsqL P L) t ∧ psum (lsqL P L) t ≤ 4 * (psum (leadLen P L) t * psum (leadLen P L) t) ∧ psum (lsqL P L) t ≤ 800 * t
  | 0, _ => by simp [psum]
  | t + 1, ht => by
    obtain ⟨i1, i2, i3, i4, i5⟩ := lens_law h t (by omega)
    obtain ⟨a1, a2, a3, a4⟩ := leadLen_spec h (show t < m by omega)
    have hr := lsqL_rng h (show t < m by omega)
    have e1 : psum (leadLen P L) (t + 1) = psum (leadLen P L) t + leadLen P L t := rfl
    have e2 : psum (lsqL P L) (t + 1) = psum (lsqL P L) t + lsqL P L t := rfl
    rw [e1, e2]
    generalize psum (leadLen P L) t = A at *
    generalize psum (lsqL P L) t = S at *
    generalize leadLen P L t = a at *
    generalize lsqL P L t = s at *
    have hA0 : 0 ≤ A := by omega
    have hx : 0 ≤ A * a := Int.mul_nonneg hA0 (by omega)
    have e3 : (A + a) * (A + a) = A * A + 2 * (A * a) + a * a := by grind
    rw [e3]
    refine ⟨by omega, by omega, by omega, by omega, by omega⟩
theorem len_law (h : wholeB n P m L = true) : ∃ N S : Int, lenV n P m L = N ∧ psum (lsqL P L) m = S ∧ (m : Int) ≤ N ∧ N ≤ 560 ∧ 0 ≤ S ∧ S ≤ 16000 ∧ N ≤ S ∧ 0 ≤ 4 * N * N ∧ 4 * N * N ≤ 1254400 ∧ ¬ 4 * N * N < S / m := by
  obtain ⟨hwin, hm, _⟩ := wholeB_get h
  have h20 := (winB_get hwin).1.2.2
  obtain ⟨i1, i2, i3, i4, i5⟩ := lens_law hwin m (Nat.le_refl _)
  refine ⟨_, _, lenV_yes hwin, rfl, i1, by omega, by omega, by omega, i3, ?_, ?_, ?_⟩
  · generalize psum (leadLen P L) m = A at *
    have := Int.mul_nonneg (show 0 ≤ 4 * A by omega) (show 0 ≤ A by omega)
    exact this
  · generalize psum (leadLen P L) m = A at *
    have := Int.mul_le_mul (show 4 * A ≤ 2240 by omega) (show A ≤ 560 by omega) (by omega) (by omega)
    omega
  · generalize psum (leadLen P L) m = A at *
    generalize psum (lsqL P L) m = S at *
    have e1 : S / m ≤ S := Int.ediv_le_self _ (by omega)
    have e2 : 4 * A * A = 4 * (A * A) := by grind
    omega
theorem hold_no {l : Int} : holdB (0, 0) l = false := by
  unfold holdB
  rw [decide_eq_false (show ¬ 0 < ((0, 0) : Int × Int).2 by decide)]; rfl
/-- What the law of frames says, in numbers. -/
theorem frame_all (hw : wholeB n P m L = true) : ∃ (k : Nat) (T x y lx ly hx hy a b u v : Int), outerV n P m L = k ∧ totalV n P m L = T ∧ midV n P m L = (x, y, 3 * T) ∧ boxV n P m L k = .tuple #[.agg #[.int .i64 lx, .int .i64 ly], .agg #[.int .i64 hx, .int .i64 hy]] ∧ glassV n P m L 3 = 3 * T ∧
    forceV n P m L 2 lx 4 = (a, b) ∧ forceV n P m L 2 lx 8 = (u, v) ∧ (0 ≤ T ∧ T ≤ 16000) ∧ ((0 ≤ lx ∧ lx ≤ 20) ∧ (0 ≤ ly ∧ ly ≤ 20) ∧ (0 ≤ hx ∧ hx ≤ 20) ∧ (0 ≤ hy ∧ hy ≤ 20)) ∧ (lx * (3 * T) ≤ x ∧ x ≤ hx * (3 * T) ∧ ly * (3 * T) ≤ y ∧ y ≤ hy * (3 * T)) ∧
    ((0 ≤ a ∧ a ≤ 512000000000) ∧ (0 ≤ b ∧ b ≤ 192000) ∧ (0 ≤ u ∧ u ≤ 512000000000) ∧ (0 ≤ v ∧ v ≤ 384000)) ∧
    ((T = 0 ∧ x = 0 ∧ y = 0 ∧ a = 0 ∧ b = 0 ∧ holdB (forceV n P m L 2 0 4) 1000 = false) ∨ (0 < T ∧ 0 < b ∧ 0 < v ∧ a * v = 2 * u * b ∧ (0 ≤ a / b ∧ a / b ≤ 160000) ∧ holdB (forceV n P m L 2 lx 4) (a / b + 1) = true ∧ holdB (forceV n P m L 2 lx 8) (a / b + 1) = true)) := by
  obtain ⟨k, ho, hT, hd, h0, h1, hz⟩ := mid_over hw
  have hlr := fun (j : Nat) (hj : j < 2) => lohi_rng (n := n) (m := m) (P := P) (L := L) (k : Int) hj
  have hg : ∀ t : Int, 1 ≤ t ∧ t ≤ 20 → glassV n P m L t = totalV n P m L * t := fun t ht => by
    unfold glassV
    rw [if_pos (by rw [hw, inB_yes ht]; rfl)]
  have hg2 := hg 2 (by omega)
  have hg3 := hg 3 (by omega)
  have hfv : ∀ sd ap, forceV n P m L 2 sd ap = forceP (totalV n P m L * 2) (midV n P m L).1 (3 * totalV n P m L) sd ap := fun sd ap => by unfold forceV; rw [hg2, hd]
  obtain ⟨⟨r0, r1⟩, ⟨r2, r3⟩⟩ := hlr 0 (by omega)
  obtain ⟨⟨r4, r5⟩, ⟨r6, r7⟩⟩ := hlr 1 (by omega)
  have hmid : midV n P m L = ((midV n P m L).1, (midV n P m L).2.1, 3 * totalV n P m L) := by rw [← hd]
  by_cases hp : 0 < totalV n P m L
  · obtain ⟨a, b, f4, f8, b0, b1, a0, a1, q0, q1, hab⟩ := force_law ⟨hp, hT.2⟩ ⟨r0, r1⟩ ⟨r2, r3⟩ h0.1 h0.2
    refine ⟨k, totalV n P m L, _, _, loN n P m L k 0, loN n P m L k 1, hiN n P m L k 0, hiN n P m L k 1, a, b, a, 2 * b, ho, rfl, hmid, rfl, by omega, by rw [hfv]; exact f4, by rw [hfv]; exact f8, hT, ⟨⟨r0, r1⟩, ⟨r4, r5⟩, ⟨r2, r3⟩, ⟨r6, r7⟩⟩, ⟨h0.1, h0.2, h1.1, h1.2⟩, ⟨⟨a0, a1⟩, ⟨by omega, by omega⟩, ⟨a0, a1⟩, ⟨by omega, by omega⟩⟩, .inr ⟨hp, b0, by omega, by grind, ⟨q0, q1⟩, ?_, ?_⟩⟩
    · rw [hfv, f4]; exact hold_yes b0 (by omega) hab
    · rw [hfv, f8]
      refine hold_yes (by omega) (by omega) ?_
      have e : (a / b + 1) * (2 * b) = 2 * ((a / b + 1) * b) := by grind
      omega
  · have h0T : totalV n P m L = 0 := by omega
    have hf0 : ∀ sd ap, forceV n P m L 2 sd ap = (0, 0) := fun sd ap => by
      rw [hfv, h0T]
      exact forceP_no (by simp)
    have hm0 := hz h0T
    refine ⟨k, totalV n P m L, _, _, loN n P m L k 0, loN n P m L k 1, hiN n P m L k 0, hiN n P m L k 1, 0, 0, 0, 0, ho, rfl, hmid, rfl, by omega, hf0 _ _, hf0 _ _, hT, ⟨⟨r0, r1⟩, ⟨r4, r5⟩, ⟨r2, r3⟩, ⟨r6, r7⟩⟩, ⟨h0.1, h0.2, h1.1, h1.2⟩, by omega, .inl ⟨h0T, by rw [hm0], by rw [hm0], rfl, rfl, by rw [hf0]; exact hold_no⟩⟩
end
end Go.Proofs.Ytgmhmlhdiklaaaa
