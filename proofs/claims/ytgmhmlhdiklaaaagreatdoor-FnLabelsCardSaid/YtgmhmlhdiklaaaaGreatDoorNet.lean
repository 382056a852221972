/-
  Which nodes hang together: by spreading a set along the leads, and by giving each node the least label of its part; both find the same. Plain lists and numbers.
-/
namespace Go.Proofs.YtgmhmlhdiklaaaaGreatDoor.Net

def joinS (x y : Nat) (r : Nat → Bool) : Nat → Bool := fun i => r i || ((r x || r y) && (decide (i = x) || decide (i = y)))
def sweep (a b : Nat → Nat) (r : Nat → Bool) : Nat → (Nat → Bool)
  | 0 => r
  | k + 1 => joinS (a k) (b k) (sweep a b r k)
def reach (a b : Nat → Nat) (m : Nat) (r : Nat → Bool) : Nat → (Nat → Bool)
  | 0 => r
  | t + 1 => sweep a b (reach a b m r t) m
def cnt (r : Nat → Bool) : Nat → Nat
  | 0 => 0
  | n + 1 => cnt r n + if r n = true then 1 else 0

theorem cnt_le (r : Nat → Bool) : ∀ n, cnt r n ≤ n
  | 0 => Nat.le_refl 0
  | n + 1 => by
    have := cnt_le r n
    show cnt r n + (if r n = true then 1 else 0) ≤ n + 1
    split <;> omega
theorem cnt_mono {r q : Nat → Bool} (h : ∀ i, r i = true → q i = true) : ∀ n, cnt r n ≤ cnt q n
  | 0 => Nat.le_refl 0
  | n + 1 => by
    have h1 := cnt_mono h n
    have h2 := h n
    show cnt r n + (if r n = true then 1 else 0) ≤ cnt q n + (if q n = true then 1 else 0)
    by_cases e : r n = true
    · rw [if_pos e, if_pos (h2 e)]; omega
    · rw [if_neg e]; omega
theorem cnt_lt {r q : Nat → Bool} (h : ∀ i, r i = true → q i = true) {j : Nat} (h1 : r j = false) (h2 : q j = true) : ∀ n, j < n → cnt r n < cnt q n
  | 0, hj => by omega
  | n + 1, hj => by
    have k1 := cnt_mono h n
    have k2 := h n
    show cnt r n + (if r n = true then 1 else 0) < cnt q n + (if q n = true then 1 else 0)
    by_cases e : j = n
    · subst e; rw [if_neg (by rw [h1]; simp), if_pos h2]; omega
    · have k3 := cnt_lt h h1 h2 n (by omega)
      by_cases e : r n = true
      · rw [if_pos e, if_pos (k2 e)]; omega
      · rw [if_neg e]; omega
theorem cnt_all {r : Nat → Bool} : ∀ {n : Nat}, cnt r n = n → ∀ i, i < n → r i = true
  | 0, _, i, hi => by omega
  | n + 1, h, i, hi => by
    have h1 := cnt_le r n
    have h' : cnt r n + (if r n = true then 1 else 0) = n + 1 := h
    by_cases e : r n = true
    · rw [if_pos e] at h'
      by_cases q : i = n
      · rw [q]; exact e
      · have h2 : cnt r n = n := by omega
        exact cnt_all (n := n) h2 i (by omega)
    · rw [if_neg e] at h'; omega
theorem cnt_full {r : Nat → Bool} : ∀ {n : Nat}, (∀ i, i < n → r i = true) → cnt r n = n
  | 0, _ => rfl
  | n + 1, h => by
    show cnt r n + (if r n = true then 1 else 0) = n + 1
    rw [cnt_full (fun i hi => h i (by omega)), if_pos (h n (by omega))]

section
variable {a b : Nat → Nat} {m n : Nat}
theorem joinS_keep {x y : Nat} {r : Nat → Bool} {i : Nat} (h : r i = true) : joinS x y r i = true := by simp [joinS, h]
theorem sweep_keep {r : Nat → Bool} {i : Nat} (h : r i = true) : ∀ k, sweep a b r k i = true
  | 0 => h
  | k + 1 => joinS_keep (sweep_keep h k)
theorem sweep_more {r : Nat → Bool} {i k : Nat} (h : sweep a b r k i = true) : ∀ j, sweep a b r (k + j) i = true
  | 0 => h
  | j + 1 => joinS_keep (sweep_more h j)
theorem sweep_up {r : Nat → Bool} {i k : Nat} (hk : k ≤ m) (h : sweep a b r k i = true) : sweep a b r m i = true := by
  have := sweep_more h (m - k)
  rwa [show k + (m - k) = m by omega] at this
theorem sweep_in {C : Nat → Prop} (hC : ∀ k, k < m → (C (a k) ↔ C (b k))) {r : Nat → Bool} (hr : ∀ i, r i = true → C i) : ∀ k, k ≤ m → ∀ i, sweep a b r k i = true → C i
  | 0, _, i, h => hr i h
  | k + 1, hk, i, h => by
    have ih := sweep_in hC hr k (by omega)
    have h' : joinS (a k) (b k) (sweep a b r k) i = true := h
    have hc := hC k (by omega)
    simp only [joinS, Bool.or_eq_true, Bool.and_eq_true, decide_eq_true_eq] at h'
    rcases h' with h1 | ⟨h1 | h1, rfl | rfl⟩
    · exact ih i h1
    · exact ih _ h1
    · exact hc.1 (ih _ h1)
    · exact hc.2 (ih _ h1)
    · exact ih _ h1
theorem sweep_fix {r : Nat → Bool} (h : ∀ i, sweep a b r m i = r i) : ∀ k, k < m → (r (a k) = true ↔ r (b k) = true) := by
  intro k hk
  constructor
  · intro h1
    rw [← h]
    refine sweep_up (k := k + 1) hk ?_
    have := sweep_keep (a := a) (b := b) h1 k
    show joinS (a k) (b k) (sweep a b r k) (b k) = true
    simp [joinS, this]
  · intro h1
    rw [← h]
    refine sweep_up (k := k + 1) hk ?_
    have := sweep_keep (a := a) (b := b) h1 k
    show joinS (a k) (b k) (sweep a b r k) (a k) = true
    simp [joinS, this]
theorem sweep_out (ha : ∀ k, k < m → a k < n) (hb : ∀ k, k < m → b k < n) {r : Nat → Bool} {i : Nat} (hi : n ≤ i) : ∀ k, k ≤ m → sweep a b r k i = r i
  | 0, _ => rfl
  | k + 1, hk => by
    have h1 := ha k (by omega)
    have h2 := hb k (by omega)
    show joinS (a k) (b k) (sweep a b r k) i = r i
    have e1 : i ≠ a k := by omega
    have e2 : i ≠ b k := by omega
    simp [joinS, e1, e2, sweep_out ha hb hi k (by omega)]
theorem reach_out (ha : ∀ k, k < m → a k < n) (hb : ∀ k, k < m → b k < n) {r : Nat → Bool} {i : Nat} (hi : n ≤ i) : ∀ t, reach a b m r t i = r i
  | 0 => rfl
  | t + 1 => (sweep_out ha hb hi m (Nat.le_refl m)).trans (reach_out ha hb hi t)
theorem reach_keep {r : Nat → Bool} {i : Nat} (h : r i = true) : ∀ t, reach a b m r t i = true
  | 0 => h
  | t + 1 => sweep_keep (reach_keep h t) m
theorem reach_in {C : Nat → Prop} (hC : ∀ k, k < m → (C (a k) ↔ C (b k))) {r : Nat → Bool} (hr : ∀ i, r i = true → C i) : ∀ t i, reach a b m r t i = true → C i
  | 0, i, h => hr i h
  | t + 1, i, h => sweep_in hC (reach_in hC hr t) m (Nat.le_refl m) i h
theorem reach_grows (ha : ∀ k, k < m → a k < n) (hb : ∀ k, k < m → b k < n) {r : Nat → Bool} (h0 : 1 ≤ cnt r n) : ∀ t, (∀ i, sweep a b (reach a b m r t) m i = reach a b m r t i) ∨ t + 1 ≤ cnt (reach a b m r t) n
  | 0 => .inr h0
  | t + 1 => by
    by_cases hf : ∀ i, sweep a b (reach a b m r t) m i = reach a b m r t i
    · left
      have e : reach a b m r (t + 1) = reach a b m r t := funext hf
      rw [e]; exact hf
    · right
      rcases reach_grows ha hb h0 t with g | g
      · exact absurd g hf
      · obtain ⟨i, hi⟩ := Classical.not_forall.1 hf
        have hin : i < n := by
          rcases Nat.lt_or_ge i n with q | q
          · exact q
          · exact absurd (sweep_out ha hb q m (Nat.le_refl m)) hi
        have h1 : reach a b m r t i = false := by
          cases e : reach a b m r t i
          · rfl
          · rw [e] at hi; exact absurd (sweep_keep e m) hi
        have h2 : sweep a b (reach a b m r t) m i = true := by
          cases e : sweep a b (reach a b m r t) m i
          · rw [e, h1] at hi; exact absurd rfl hi
          · rfl
        have := cnt_lt (r := reach a b m r t) (q := sweep a b (reach a b m r t) m) (fun i h => sweep_keep h m) h1 h2 n hin
        show t + 1 + 1 ≤ cnt (sweep a b (reach a b m r t) m) n
        omega
theorem reach_closed (ha : ∀ k, k < m → a k < n) (hb : ∀ k, k < m → b k < n) {r : Nat → Bool} (h0 : 1 ≤ cnt r n) : ∀ k, k < m → (reach a b m r n (a k) = true ↔ reach a b m r n (b k) = true) := by
  rcases reach_grows ha hb h0 n with g | g
  · exact sweep_fix g
  · have := cnt_le (reach a b m r n) n; omega

/-- The labels after k leads. -/
def lab (a b : Nat → Nat) : Nat → Nat → Nat
  | 0, i => i
  | k + 1, i => if lab a b k i = max (lab a b k (a k)) (lab a b k (b k)) then min (lab a b k (a k)) (lab a b k (b k)) else lab a b k i
theorem lab_le (a b : Nat → Nat) : ∀ k i, lab a b k i ≤ i
  | 0, i => Nat.le_refl i
  | k + 1, i => by
    have := lab_le a b k i
    show (if lab a b k i = max (lab a b k (a k)) (lab a b k (b k)) then min (lab a b k (a k)) (lab a b k (b k)) else lab a b k i) ≤ i
    split <;> omega
theorem lab_same {i j : Nat} (k : Nat) (h : lab a b k i = lab a b k j) : lab a b (k + 1) i = lab a b (k + 1) j := by
  show (if lab a b k i = max (lab a b k (a k)) (lab a b k (b k)) then min (lab a b k (a k)) (lab a b k (b k)) else lab a b k i) = (if lab a b k j = max (lab a b k (a k)) (lab a b k (b k)) then min (lab a b k (a k)) (lab a b k (b k)) else lab a b k j)
  rw [h]
theorem lab_join (a b : Nat → Nat) : ∀ k j, j < k → lab a b k (a j) = lab a b k (b j)
  | 0, j, h => by omega
  | k + 1, j, h => by
    by_cases e : j < k
    · exact lab_same k (lab_join a b k j e)
    · obtain rfl : j = k := by omega
      show (if lab a b j (a j) = max (lab a b j (a j)) (lab a b j (b j)) then min (lab a b j (a j)) (lab a b j (b j)) else lab a b j (a j)) = (if lab a b j (b j) = max (lab a b j (a j)) (lab a b j (b j)) then min (lab a b j (a j)) (lab a b j (b j)) else lab a b j (b j))
      split <;> split <;> omega
theorem lab_in {C : Nat → Prop} (hC : ∀ k, k < m → (C (a k) ↔ C (b k))) : ∀ k, k ≤ m → ∀ i, (C (lab a b k i) ↔ C i)
  | 0, _, i => Iff.rfl
  | k + 1, hk, i => by
    have ih := lab_in hC k (by omega)
    have h1 := ih (a k)
    have h2 := ih (b k)
    have h3 := hC k (by omega)
    have h4 := ih i
    have hxy : C (lab a b k (a k)) ↔ C (lab a b k (b k)) := h1.trans (h3.trans h2.symm)
    show C (if lab a b k i = max (lab a b k (a k)) (lab a b k (b k)) then min (lab a b k (a k)) (lab a b k (b k)) else lab a b k i) ↔ C i
    split
    · rename_i e
      rw [← h4, e]
      rcases Nat.le_total (lab a b k (a k)) (lab a b k (b k)) with q | q
      · rw [Nat.min_eq_left q, Nat.max_eq_right q]; exact hxy
      · rw [Nat.min_eq_right q, Nat.max_eq_left q]; exact hxy.symm
    · exact h4

theorem whole_iff (hn : 1 ≤ n) (ha : ∀ k, k < m → a k < n) (hb : ∀ k, k < m → b k < n) : (∀ i, i < n → lab a b m i = 0) ↔ (∀ i, i < n → reach a b m (fun i => decide (i = 0)) n i = true) := by
  constructor
  · intro h i hi
    have h0 : 1 ≤ cnt (fun i => decide (i = 0)) n := by
      have := cnt_lt (r := fun _ => false) (q := fun i => decide (i = 0)) (fun i h => by cases h) (j := 0) rfl rfl n hn
      omega
    have := lab_in (m := m) (C := fun i => reach a b m (fun i => decide (i = 0)) n i = true) (reach_closed ha hb h0) m (Nat.le_refl m) i
    rw [h i hi] at this
    exact this.1 (reach_keep rfl n)
  · intro h i hi
    refine reach_in (m := m) (C := fun i => lab a b m i = 0) (fun k hk => ?_) (r := fun i => decide (i = 0)) (fun i hi => ?_) n i (h i hi)
    · rw [lab_join a b m k hk]
    · have e : i = 0 := by simpa using hi
      subst e
      have := lab_le a b m 0
      omega
end
end Go.Proofs.YtgmhmlhdiklaaaaGreatDoor.Net
