/-
  Texts of one kind, one behind the other: GeoA GeoB GeoC GeoD GeoE GeoF GeoG Sorted WinGeo Deg WinFace. No conditions.
-/
import Derived.Test.YtgmhmlhdiklaaaaGreatDoorRing
import Derived.Test.YtgmhmlhdiklaaaaGreatDoorNet
import Derived.Test.YtgmhmlhdiklaaaaGreatDoorDarts
/- GeoA -/
namespace Go.Proofs.YtgmhmlhdiklaaaaGreatDoor.Geo

def sumN (g : Nat → Int) : Nat → Int
  | 0 => 0
  | n + 1 => sumN g n + g n

theorem sumN_congr {g h : Nat → Int} : ∀ {n : Nat}, (∀ k, k < n → g k = h k) → sumN g n = sumN h n
  | 0, _ => rfl
  | n + 1, H => by
    show sumN g n + g n = sumN h n + h n
    rw [sumN_congr (fun k hk => H k (by omega)), H n (by omega)]
theorem sumN_add (g h : Nat → Int) : ∀ n, sumN (fun k => g k + h k) n = sumN g n + sumN h n
  | 0 => rfl
  | n + 1 => by
    show sumN (fun k => g k + h k) n + (g n + h n) = (sumN g n + g n) + (sumN h n + h n)
    rw [sumN_add g h n]; omega
theorem sumN_sub (g h : Nat → Int) : ∀ n, sumN (fun k => g k - h k) n = sumN g n - sumN h n
  | 0 => rfl
  | n + 1 => by
    show sumN (fun k => g k - h k) n + (g n - h n) = (sumN g n + g n) - (sumN h n + h n)
    rw [sumN_sub g h n]; omega
theorem sumN_mul (c : Int) (g : Nat → Int) : ∀ n, sumN (fun k => c * g k) n = c * sumN g n
  | 0 => by simp [sumN]
  | n + 1 => by
    show sumN (fun k => c * g k) n + c * g n = c * (sumN g n + g n)
    rw [sumN_mul c g n, Int.mul_add]
theorem sumN_neg (g : Nat → Int) : ∀ n, sumN (fun k => - g k) n = - sumN g n
  | 0 => rfl
  | n + 1 => by
    show sumN (fun k => - g k) n + (- g n) = - (sumN g n + g n)
    rw [sumN_neg g n]; omega
theorem sumN_zero {g : Nat → Int} : ∀ {n : Nat}, (∀ k, k < n → g k = 0) → sumN g n = 0
  | 0, _ => rfl
  | n + 1, H => by
    show sumN g n + g n = 0
    rw [sumN_zero (fun k hk => H k (by omega)), H n (by omega)]; rfl
theorem sumN_nonneg {g : Nat → Int} : ∀ {n : Nat}, (∀ k, k < n → 0 ≤ g k) → 0 ≤ sumN g n
  | 0, _ => by simp [sumN]
  | n + 1, H => by
    have h1 := sumN_nonneg (g := g) (n := n) (fun k hk => H k (by omega))
    have h2 := H n (by omega)
    show 0 ≤ sumN g n + g n
    omega
theorem sumN_pos {g : Nat → Int} : ∀ {n : Nat} (j : Nat), j < n → (∀ k, k < n → 0 ≤ g k) → 0 < g j → 0 < sumN g n
  | 0, j, hj, _, _ => by omega
  | n + 1, j, hj, H, hp => by
    have h2 := H n (by omega)
    show 0 < sumN g n + g n
    by_cases h : j < n
    · have := sumN_pos (g := g) (n := n) j h (fun k hk => H k (by omega)) hp
      omega
    · obtain rfl : j = n := by omega
      have := sumN_nonneg (g := g) (n := j) (fun k hk => H k (by omega))
      omega
theorem sumN_comm (g : Nat → Nat → Int) (m : Nat) : ∀ n, sumN (fun i => sumN (fun j => g i j) m) n = sumN (fun j => sumN (fun i => g i j) n) m
  | 0 => by
    show 0 = sumN (fun j => 0) m
    exact (sumN_zero fun _ _ => rfl).symm
  | n + 1 => by
    show sumN (fun i => sumN (fun j => g i j) m) n + sumN (fun j => g n j) m = sumN (fun j => sumN (fun i => g i j) n + g n j) m
    rw [sumN_comm g m n, sumN_add]
/-- The sum of an indicator. -/
theorem sumN_one (v : Nat) (a : Int) : ∀ n, v < n → sumN (fun k => if k = v then a else 0) n = a
  | 0, h => by omega
  | n + 1, h => by
    show sumN (fun k => if k = v then a else 0) n + (if n = v then a else 0) = a
    by_cases e : n = v
    · subst e
      rw [if_pos rfl, sumN_zero (fun k hk => if_neg (by omega))]; omega
    · rw [if_neg e, sumN_one v a n (by omega)]; omega

theorem ilt (a b : Int) : a < b ∨ b ≤ a := by omega
/-- What an affine function does between two places. -/
theorem affine_le {al ka a x b : Int} (h1 : 0 ≤ al + ka * a) (h2 : 0 ≤ al + ka * b) (ha : a ≤ x) (hb : x ≤ b) : 0 ≤ al + ka * x := by
  rcases Int.le_total 0 ka with h | h
  · have := Int.mul_le_mul_of_nonneg_left ha h; omega
  · have := Int.mul_le_mul_of_nonpos_left h hb; omega
theorem affine_mid {al ka a x b : Int} (h1 : 0 ≤ al + ka * a) (h2 : 0 ≤ al + ka * b) (hne : ¬ (al + ka * a = 0 ∧ al + ka * b = 0)) (ha : a ≤ x) (hb : x + 1 ≤ b) :
    0 < (al + ka * x) + (al + ka * (x + 1)) := by
  have p1 := affine_le h1 h2 ha (by omega : x ≤ b)
  have p2 := affine_le h1 h2 (by omega : a ≤ x + 1) hb
  rcases ilt 0 ((al + ka * x) + (al + ka * (x + 1))) with h | h
  · exact h
  · exfalso
    have e1 : al + ka * x = 0 := by omega
    have e2 : al + ka * (x + 1) = 0 := by omega
    rw [Int.mul_add, Int.mul_one] at e2
    have hk : ka = 0 := by omega
    subst hk
    simp at *
    omega
/-- An affine function that goes from below 0 to above 0 is below 0 before, above 0 behind. -/
theorem affine_up {al ka a b : Int} (h1 : al + ka * a < 0) (h2 : 0 < al + ka * b) (hab : a < b) : 0 < ka := by
  rcases ilt 0 ka with h | h
  · exact h
  · have := Int.mul_le_mul_of_nonpos_left h (by omega : a ≤ b); omega
theorem affine_before {al ka a x : Int} (hk : 0 < ka) (h1 : al + ka * a < 0) (hx : x ≤ a) : al + ka * x < 0 := by
  have := Int.mul_le_mul_of_nonneg_left hx (Int.le_of_lt hk); omega
theorem affine_after {al ka a x : Int} (hk : 0 < ka) (h1 : 0 < al + ka * a) (hx : a ≤ x) : 0 < al + ka * x := by
  have := Int.mul_le_mul_of_nonneg_left hx (Int.le_of_lt hk); omega
end Go.Proofs.YtgmhmlhdiklaaaaGreatDoor.Geo

/- GeoB -/
namespace Go.Proofs.YtgmhmlhdiklaaaaGreatDoor.Geo

def D (t s : Nat → Int) (a b z : Nat) : Int := (t b - t a) * (s z - s a) - (s b - s a) * (t z - t a)

structure Dr (n m : Nat) (t s : Nat → Int) (lo hi : Nat → Nat) (c : Nat → Int) (L : Int) : Prop where
  nlo : ∀ k, k < m → lo k < n
  nhi : ∀ k, k < m → hi k < n
  lt : ∀ k, k < m → t (lo k) < t (hi k)
  inj : ∀ u v, u < n → v < n → t u = t v → u = v
  on : ∀ k v, k < m → v < n → v ≠ lo k → v ≠ hi k → t (lo k) < t v → t v < t (hi k) → D t s (lo k) (hi k) v ≠ 0
  cross : ∀ k l, k < m → l < m → k ≠ l → ¬ (D t s (lo k) (hi k) (lo l) * D t s (lo k) (hi k) (hi l) < 0 ∧ D t s (lo l) (hi l) (lo k) * D t s (lo l) (hi l) (hi k) < 0)
  same : ∀ k l, k < m → l < m → lo k = lo l → hi k = hi l → k = l
  hc : ∀ k, k < m → c k * (t (hi k) - t (lo k)) = L
  hL : 0 < L

section
variable {n m : Nat} {t s : Nat → Int} {lo hi : Nat → Nat} {c : Nat → Int} {L : Int}

/-- L times the height of lead k at x: al + ka * x. -/
def al (t s : Nat → Int) (lo hi : Nat → Nat) (c : Nat → Int) (k : Nat) : Int := c k * (s (lo k) * t (hi k) - s (hi k) * t (lo k))
def ka (s : Nat → Int) (lo hi : Nat → Nat) (c : Nat → Int) (k : Nat) : Int := c k * (s (hi k) - s (lo k))
def Y (t s : Nat → Int) (lo hi : Nat → Nat) (c : Nat → Int) (k : Nat) (x : Int) : Int := al t s lo hi c k + ka s lo hi c k * x
/-- 2 L times the height in the middle of the strip from x to x + 1. -/
def y (t s : Nat → Int) (lo hi : Nat → Nat) (c : Nat → Int) (k : Nat) (x : Int) : Int := Y t s lo hi c k x + Y t s lo hi c k (x + 1)

theorem cpos (h : Dr n m t s lo hi c L) {k : Nat} (hk : k < m) : 0 < c k := by
  have h1 := h.hc k hk
  have h2 := h.lt k hk
  have h3 := h.hL
  rcases ilt 0 (c k) with h | h
  · exact h
  · have := Int.mul_nonpos_of_nonpos_of_nonneg h (by omega : 0 ≤ t (hi k) - t (lo k)); omega

theorem Y_at (h : Dr n m t s lo hi c L) {k : Nat} (hk : k < m) (z : Nat) : L * s z - Y t s lo hi c k (t z) = c k * D t s (lo k) (hi k) z := by
  have h1 := h.hc k hk
  unfold Y al ka D
  rw [← h1]
  grind
theorem Y_lo (h : Dr n m t s lo hi c L) {k : Nat} (hk : k < m) : Y t s lo hi c k (t (lo k)) = L * s (lo k) := by
  have := Y_at h hk (lo k)
  have h0 : D t s (lo k) (hi k) (lo k) = 0 := by unfold D; grind
  rw [h0, Int.mul_zero] at this; omega
theorem Y_hi (h : Dr n m t s lo hi c L) {k : Nat} (hk : k < m) : Y t s lo hi c k (t (hi k)) = L * s (hi k) := by
  have := Y_at h hk (hi k)
  have h0 : D t s (lo k) (hi k) (hi k) = 0 := by unfold D; grind
  rw [h0, Int.mul_zero] at this; omega

theorem mul_pos_iff {a b : Int} (ha : 0 < a) : 0 < a * b ↔ 0 < b := by
  constructor
  · intro h
    rcases ilt 0 b with hb | hb
    · exact hb
    · have := Int.mul_nonpos_of_nonneg_of_nonpos (Int.le_of_lt ha) hb; omega
  · intro h; exact Int.mul_pos ha h
theorem mul_neg_iff {a b : Int} (ha : 0 < a) : a * b < 0 ↔ b < 0 := by
  have := mul_pos_iff (b := -b) ha
  rw [Int.mul_neg] at this; omega
theorem mul_zero_iff {a b : Int} (ha : 0 < a) : a * b = 0 ↔ b = 0 := by
  constructor
  · intro h
    have h1 := mul_pos_iff (b := b) ha
    have h2 := mul_neg_iff (b := b) ha
    omega
  · intro h; rw [h, Int.mul_zero]

/-- The difference of two heights, as an affine function. -/
theorem diff_eq (k l : Nat) (x : Int) : Y t s lo hi c k x - Y t s lo hi c l x = (al t s lo hi c k - al t s lo hi c l) + (ka s lo hi c k - ka s lo hi c l) * x := by
  unfold Y; rw [Int.sub_mul]; omega

theorem nc1 (h : Dr n m t s lo hi c L) {k l : Nat} (hk : k < m) (hl : l < m) (hne : k ≠ l) {a b : Int} (a1 : t (lo k) ≤ a) (a2 : t (lo l) ≤ a) (b1 : b ≤ t (hi k)) (b2 : b ≤ t (hi l)) (hab : a < b) :
    ¬ (Y t s lo hi c k a - Y t s lo hi c l a < 0 ∧ 0 < Y t s lo hi c k b - Y t s lo hi c l b) := by
  rintro ⟨h1, h2⟩
  rw [diff_eq] at h1 h2
  have hka := affine_up h1 h2 hab
  have e1 := affine_before hka h1 a1
  have e2 := affine_before hka h1 a2
  have e3 := affine_after hka h2 b1
  have e4 := affine_after hka h2 b2
  rw [← diff_eq] at e1 e2 e3 e4
  have k1 := Y_at h hk (lo l)
  have k2 := Y_at h hk (hi l)
  have k3 := Y_at h hl (lo k)
  have k4 := Y_at h hl (hi k)
  rw [Y_lo h hk] at e1
  rw [Y_hi h hk] at e3
  rw [Y_lo h hl] at e2
  rw [Y_hi h hl] at e4
  have p1 : 0 < D t s (lo k) (hi k) (lo l) := (mul_pos_iff (cpos h hk)).1 (by omega)
  have p2 : D t s (lo k) (hi k) (hi l) < 0 := (mul_neg_iff (cpos h hk)).1 (by omega)
  have p3 : D t s (lo l) (hi l) (lo k) < 0 := (mul_neg_iff (cpos h hl)).1 (by omega)
  have p4 : 0 < D t s (lo l) (hi l) (hi k) := (mul_pos_iff (cpos h hl)).1 (by omega)
  exact h.cross k l hk hl hne ⟨Int.mul_neg_of_pos_of_neg p1 p2, Int.mul_neg_of_neg_of_pos p3 p4⟩

theorem nc0 (h : Dr n m t s lo hi c L) {k l : Nat} (hk : k < m) (hl : l < m) (hne : k ≠ l) {a b : Int} (a1 : t (lo k) ≤ a) (a2 : t (lo l) ≤ a) (b1 : b ≤ t (hi k)) (b2 : b ≤ t (hi l)) (hab : a < b) :
    ¬ (Y t s lo hi c k a - Y t s lo hi c l a = 0 ∧ Y t s lo hi c k b - Y t s lo hi c l b = 0) := by
  rintro ⟨h1, h2⟩
  rw [diff_eq] at h1 h2
  have hka : ka s lo hi c k - ka s lo hi c l = 0 := by
    rcases Int.lt_trichotomy (ka s lo hi c k - ka s lo hi c l) 0 with g | g | g
    · have := Int.mul_lt_mul_of_neg_left hab g; omega
    · exact g
    · have := Int.mul_lt_mul_of_pos_left hab g; omega
  have hz : ∀ x, Y t s lo hi c k x = Y t s lo hi c l x := by
    intro x
    have := diff_eq (t := t) (s := s) (lo := lo) (hi := hi) (c := c) k l x
    rw [hka, Int.zero_mul] at this
    rw [hka, Int.zero_mul] at h1
    omega
  have z1 : D t s (lo k) (hi k) (lo l) = 0 := (mul_zero_iff (cpos h hk)).1 (by rw [← Y_at h hk, hz, Y_lo h hl]; omega)
  have z2 : D t s (lo k) (hi k) (hi l) = 0 := (mul_zero_iff (cpos h hk)).1 (by rw [← Y_at h hk, hz, Y_hi h hl]; omega)
  have z3 : D t s (lo l) (hi l) (lo k) = 0 := (mul_zero_iff (cpos h hl)).1 (by rw [← Y_at h hl, ← hz, Y_lo h hk]; omega)
  have z4 : D t s (lo l) (hi l) (hi k) = 0 := (mul_zero_iff (cpos h hl)).1 (by rw [← Y_at h hl, ← hz, Y_hi h hk]; omega)
  have hkt := h.lt k hk
  have hlt := h.lt l hl
  have elo : lo k = lo l := by
    apply h.inj _ _ (h.nlo k hk) (h.nlo l hl)
    rcases Int.lt_trichotomy (t (lo k)) (t (lo l)) with g | g | g
    · exact absurd z1 (h.on k (lo l) hk (h.nlo l hl) (by intro e; rw [e] at g; omega) (by intro e; rw [e] at a2; omega) g (by omega))
    · exact g
    · exact absurd z3 (h.on l (lo k) hl (h.nlo k hk) (by intro e; rw [e] at g; omega) (by intro e; rw [e] at a1; omega) g (by omega))
  have ehi : hi k = hi l := by
    apply h.inj _ _ (h.nhi k hk) (h.nhi l hl)
    rcases Int.lt_trichotomy (t (hi k)) (t (hi l)) with g | g | g
    · exact absurd z4 (h.on l (hi k) hl (h.nhi k hk) (by intro e; rw [e] at b1; omega) (by intro e; rw [e] at g; omega) (by omega) g)
    · exact g
    · exact absurd z2 (h.on k (hi l) hk (h.nhi l hl) (by intro e; rw [e] at b2; omega) (by intro e; rw [e] at g; omega) (by omega) g)
  exact hne (h.same k l hk hl elo ehi)

/-- Of two leads over a common stretch one is above the other throughout. -/
theorem dich (h : Dr n m t s lo hi c L) {k l : Nat} (hk : k < m) (hl : l < m) (hne : k ≠ l) {a b : Int} (a1 : t (lo k) ≤ a) (a2 : t (lo l) ≤ a) (b1 : b ≤ t (hi k)) (b2 : b ≤ t (hi l)) (hab : a < b) :
    (0 ≤ Y t s lo hi c k a - Y t s lo hi c l a ∧ 0 ≤ Y t s lo hi c k b - Y t s lo hi c l b ∧ ∀ x, a ≤ x → x + 1 ≤ b → y t s lo hi c l x < y t s lo hi c k x) ∨
    (Y t s lo hi c k a - Y t s lo hi c l a ≤ 0 ∧ Y t s lo hi c k b - Y t s lo hi c l b ≤ 0 ∧ ∀ x, a ≤ x → x + 1 ≤ b → y t s lo hi c k x < y t s lo hi c l x) := by
  have p1 := nc1 h hk hl hne a1 a2 b1 b2 hab
  have p2 := nc1 h hl hk (Ne.symm hne) a2 a1 b2 b1 hab
  have p3 := nc0 h hk hl hne a1 a2 b1 b2 hab
  by_cases q : 0 ≤ Y t s lo hi c k a - Y t s lo hi c l a ∧ 0 ≤ Y t s lo hi c k b - Y t s lo hi c l b
  · refine .inl ⟨q.1, q.2, fun x hx1 hx2 => ?_⟩
    have := affine_mid (al := al t s lo hi c k - al t s lo hi c l) (ka := ka s lo hi c k - ka s lo hi c l) (a := a) (x := x) (b := b) (by rw [← diff_eq]; exact q.1) (by rw [← diff_eq]; exact q.2) (by rw [← diff_eq, ← diff_eq]; exact p3) hx1 hx2
    rw [← diff_eq, ← diff_eq] at this
    unfold y
    omega
  · have q' : 0 ≤ Y t s lo hi c l a - Y t s lo hi c k a ∧ 0 ≤ Y t s lo hi c l b - Y t s lo hi c k b := by omega
    refine .inr ⟨by omega, by omega, fun x hx1 hx2 => ?_⟩
    have := affine_mid (al := al t s lo hi c l - al t s lo hi c k) (ka := ka s lo hi c l - ka s lo hi c k) (a := a) (x := x) (b := b) (by rw [← diff_eq]; exact q'.1) (by rw [← diff_eq]; exact q'.2) (by rw [← diff_eq, ← diff_eq]; omega) hx1 hx2
    rw [← diff_eq, ← diff_eq] at this
    unfold y
    omega

/-- The order of two leads does not change from strip to strip. -/
theorem order_const (h : Dr n m t s lo hi c L) {k l : Nat} (hk : k < m) (hl : l < m) {x x' : Int} (h1 : t (lo k) ≤ x) (h2 : t (lo l) ≤ x) (h3 : x < t (hi k)) (h4 : x < t (hi l))
    (h1' : t (lo k) ≤ x') (h2' : t (lo l) ≤ x') (h3' : x' < t (hi k)) (h4' : x' < t (hi l)) : y t s lo hi c l x ≤ y t s lo hi c k x ↔ y t s lo hi c l x' ≤ y t s lo hi c k x' := by
  by_cases hne : k = l
  · subst hne; simp
  · obtain ⟨a, ha1, ha2, ha3, ha4⟩ : ∃ a, t (lo k) ≤ a ∧ t (lo l) ≤ a ∧ a ≤ x ∧ a ≤ x' := ⟨max (t (lo k)) (t (lo l)), by omega, by omega, by omega, by omega⟩
    obtain ⟨b, hb1, hb2, hb3, hb4⟩ : ∃ b, b ≤ t (hi k) ∧ b ≤ t (hi l) ∧ x + 1 ≤ b ∧ x' + 1 ≤ b := ⟨min (t (hi k)) (t (hi l)), by omega, by omega, by omega, by omega⟩
    rcases dich h hk hl hne ha1 ha2 hb1 hb2 (by omega) with ⟨_, _, g⟩ | ⟨_, _, g⟩
    · have g1 := g x ha3 hb3; have g2 := g x' ha4 hb4; omega
    · have g1 := g x ha3 hb3; have g2 := g x' ha4 hb4; omega
theorem order_ne (h : Dr n m t s lo hi c L) {k l : Nat} (hk : k < m) (hl : l < m) (hne : k ≠ l) {x : Int} (h1 : t (lo k) ≤ x) (h2 : t (lo l) ≤ x) (h3 : x < t (hi k)) (h4 : x < t (hi l)) : y t s lo hi c l x ≠ y t s lo hi c k x := by
  rcases dich h hk hl hne h1 h2 (by omega : x + 1 ≤ t (hi k)) (by omega : x + 1 ≤ t (hi l)) (by omega) with ⟨_, _, g⟩ | ⟨_, _, g⟩
  · have := g x (by omega) (by omega); omega
  · have := g x (by omega) (by omega); omega

/-- A lead p passes over or under the node v; a lead q starts at v: which is above, at v and behind it. -/
theorem starts (h : Dr n m t s lo hi c L) {p q v : Nat} (hp : p < m) (hq : q < m) (hv : v < n) (h1 : t (lo p) < t v) (h2 : t v < t (hi p)) (e : lo q = v) :
    (y t s lo hi c q (t v) ≤ y t s lo hi c p (t v) ↔ L * s v < Y t s lo hi c p (t v)) ∧ (y t s lo hi c p (t v) ≤ y t s lo hi c q (t v) ↔ Y t s lo hi c p (t v) < L * s v) ∧ Y t s lo hi c p (t v) ≠ L * s v := by
  subst e
  have hqt := h.lt q hq
  have hne : p ≠ q := by rintro rfl; omega
  have hd : D t s (lo p) (hi p) (lo q) ≠ 0 := h.on p (lo q) hp hv (by intro e; rw [e] at h1; omega) (by intro e; rw [e] at h2; omega) h1 h2
  have hY := Y_at h hp (lo q)
  have hz := mul_zero_iff (b := D t s (lo p) (hi p) (lo q)) (cpos h hp)
  have hlo := Y_lo h hq
  have hyne : Y t s lo hi c p (t (lo q)) ≠ L * s (lo q) := by omega
  rcases dich h hp hq hne (a := t (lo q)) (b := t (lo q) + 1) (by omega) (by omega) (by omega) (by omega) (by omega) with ⟨g1, _, g⟩ | ⟨g1, _, g⟩
  · have := g (t (lo q)) (by omega) (by omega); omega
  · have := g (t (lo q)) (by omega) (by omega); omega
/-- .. a lead q ends at v: at v and before it. -/
theorem ends (h : Dr n m t s lo hi c L) {p q v : Nat} (hp : p < m) (hq : q < m) (hv : v < n) (h1 : t (lo p) < t v) (h2 : t v < t (hi p)) (e : hi q = v) :
    (y t s lo hi c q (t v - 1) ≤ y t s lo hi c p (t v - 1) ↔ L * s v < Y t s lo hi c p (t v)) ∧ (y t s lo hi c p (t v - 1) ≤ y t s lo hi c q (t v - 1) ↔ Y t s lo hi c p (t v) < L * s v) ∧ Y t s lo hi c p (t v) ≠ L * s v := by
  subst e
  have hqt := h.lt q hq
  have hne : p ≠ q := by rintro rfl; omega
  have hd : D t s (lo p) (hi p) (hi q) ≠ 0 := h.on p (hi q) hp hv (by intro e; rw [e] at h1; omega) (by intro e; rw [e] at h2; omega) h1 h2
  have hY := Y_at h hp (hi q)
  have hz := mul_zero_iff (b := D t s (lo p) (hi p) (hi q)) (cpos h hp)
  have hlo := Y_hi h hq
  have hyne : Y t s lo hi c p (t (hi q)) ≠ L * s (hi q) := by omega
  rcases dich h hp hq hne (a := t (hi q) - 1) (b := t (hi q)) (by omega) (by omega) (by omega) (by omega) (by omega) with ⟨_, g1, g⟩ | ⟨_, g1, g⟩
  · have := g (t (hi q) - 1) (by omega) (by omega); omega
  · have := g (t (hi q) - 1) (by omega) (by omega); omega
end
end Go.Proofs.YtgmhmlhdiklaaaaGreatDoor.Geo

/- GeoC -/
namespace Go.Proofs.YtgmhmlhdiklaaaaGreatDoor.Geo
section
variable {n m : Nat} {t s : Nat → Int} {lo hi : Nat → Nat} {c : Nat → Int} {L : Int} {σ : Nat → Int}

/-- The flow over the strip from x to x + 1 at height h and below. -/
def N (m : Nat) (t s : Nat → Int) (lo hi : Nat → Nat) (c : Nat → Int) (σ : Nat → Int) (x h : Int) : Int :=
  sumN (fun l => if (t (lo l) ≤ x ∧ x < t (hi l)) ∧ y t s lo hi c l x ≤ h then σ l else 0) m
/-- The flow is conserved at every node. -/
def Circ (n m : Nat) (lo hi : Nat → Nat) (σ : Nat → Int) : Prop := ∀ v, v < n → sumN (fun l => (if lo l = v then σ l else 0) - (if hi l = v then σ l else 0)) m = 0

theorem N_step (h : Dr n m t s lo hi c L) (hC : Circ n m lo hi σ) {k : Nat} (hk : k < m) {x : Int} (h1 : t (lo k) < x) (h2 : x < t (hi k)) :
    N m t s lo hi c σ x (y t s lo hi c k x) = N m t s lo hi c σ (x - 1) (y t s lo hi c k (x - 1)) := by
  have key : ∃ (β : Int) (v : Nat), v < n ∧ ∀ l, l < m →
      (if (t (lo l) ≤ x ∧ x < t (hi l)) ∧ y t s lo hi c l x ≤ y t s lo hi c k x then σ l else 0) - (if (t (lo l) ≤ x - 1 ∧ x - 1 < t (hi l)) ∧ y t s lo hi c l (x - 1) ≤ y t s lo hi c k (x - 1) then σ l else 0) =
      β * ((if lo l = v then σ l else 0) - (if hi l = v then σ l else 0)) := by
    by_cases hv : ∃ v, v < n ∧ t v = x
    · obtain ⟨v, hv, rfl⟩ := hv
      refine ⟨if L * s v < Y t s lo hi c k (t v) then 1 else 0, v, hv, fun l hl => ?_⟩
      have hlt := h.lt l hl
      by_cases e1 : lo l = v
      · have hs := (starts h hk hl hv h1 h2 e1).1
        have e2 : hi l ≠ v := by intro e2; rw [e1, e2] at hlt; omega
        rw [if_pos e1, if_neg e2]
        subst e1
        by_cases g : L * s (lo l) < Y t s lo hi c k (t (lo l))
        · rw [if_pos ⟨⟨by omega, by omega⟩, hs.2 g⟩, if_neg (by omega), if_pos g]; omega
        · rw [if_neg (fun q => g (hs.1 q.2)), if_neg (by omega), if_neg g]; omega
      · by_cases e2 : hi l = v
        · have hs := (ends h hk hl hv h1 h2 e2).1
          rw [if_neg e1, if_pos e2]
          subst e2
          by_cases g : L * s (hi l) < Y t s lo hi c k (t (hi l))
          · rw [if_neg (by omega), if_pos ⟨⟨by omega, by omega⟩, hs.2 g⟩, if_pos g]; omega
          · rw [if_neg (by omega), if_neg (fun q => g (hs.1 q.2)), if_neg g]; omega
        · have n1 : t (lo l) ≠ t v := fun q => e1 (h.inj _ _ (h.nlo l hl) hv q)
          have n2 : t (hi l) ≠ t v := fun q => e2 (h.inj _ _ (h.nhi l hl) hv q)
          rw [if_neg e1, if_neg e2]
          by_cases g : t (lo l) ≤ t v ∧ t v < t (hi l)
          · have ho := order_const h hk hl (x := t v) (x' := t v - 1) (by omega) (by omega) (by omega) (by omega) (by omega) (by omega) (by omega) (by omega)
            by_cases q : y t s lo hi c l (t v) ≤ y t s lo hi c k (t v)
            · rw [if_pos ⟨g, q⟩, if_pos ⟨⟨by omega, by omega⟩, ho.1 q⟩]; simp
            · rw [if_neg (fun p => q p.2), if_neg (fun p => q (ho.2 p.2))]; simp
          · rw [if_neg (fun p => g p.1), if_neg (by omega)]; simp
    · refine ⟨0, lo k, h.nlo k hk, fun l hl => ?_⟩
      have n1 : t (lo l) ≠ x := fun q => hv ⟨_, h.nlo l hl, q⟩
      have n2 : t (hi l) ≠ x := fun q => hv ⟨_, h.nhi l hl, q⟩
      rw [Int.zero_mul]
      by_cases g : t (lo l) ≤ x ∧ x < t (hi l)
      · have ho := order_const h hk hl (x := x) (x' := x - 1) (by omega) (by omega) (by omega) (by omega) (by omega) (by omega) (by omega) (by omega)
        by_cases q : y t s lo hi c l x ≤ y t s lo hi c k x
        · rw [if_pos ⟨g, q⟩, if_pos ⟨⟨by omega, by omega⟩, ho.1 q⟩]; omega
        · rw [if_neg (fun p => q p.2), if_neg (fun p => q (ho.2 p.2))]; rfl
      · rw [if_neg (fun p => g p.1), if_neg (by omega)]; rfl
  obtain ⟨β, v, hv, hk'⟩ := key
  have hc := hC v hv
  have e := sumN_sub (fun l => if (t (lo l) ≤ x ∧ x < t (hi l)) ∧ y t s lo hi c l x ≤ y t s lo hi c k x then σ l else 0)
    (fun l => if (t (lo l) ≤ x - 1 ∧ x - 1 < t (hi l)) ∧ y t s lo hi c l (x - 1) ≤ y t s lo hi c k (x - 1) then σ l else 0) m
  rw [sumN_congr hk', sumN_mul, hc, Int.mul_zero] at e
  unfold N
  omega

/-- What lies at and below lead k: its value in every strip. -/
def H (m : Nat) (t s : Nat → Int) (lo hi : Nat → Nat) (c : Nat → Int) (σ : Nat → Int) (k : Nat) : Int := N m t s lo hi c σ (t (lo k)) (y t s lo hi c k (t (lo k)))
theorem H_at (h : Dr n m t s lo hi c L) (hC : Circ n m lo hi σ) {k : Nat} (hk : k < m) : ∀ i : Nat, t (lo k) + i < t (hi k) →
    N m t s lo hi c σ (t (lo k) + i) (y t s lo hi c k (t (lo k) + i)) = H m t s lo hi c σ k
  | 0, _ => by simp [H]
  | i + 1, hi' => by
    have := N_step h hC hk (x := t (lo k) + (i + 1 : Nat)) (by omega) hi'
    rw [this, show t (lo k) + ((i + 1 : Nat) : Int) - 1 = t (lo k) + i by omega]
    exact H_at h hC hk i (by omega)
theorem H_any (h : Dr n m t s lo hi c L) (hC : Circ n m lo hi σ) {k : Nat} (hk : k < m) {x : Int} (h1 : t (lo k) ≤ x) (h2 : x < t (hi k)) : N m t s lo hi c σ x (y t s lo hi c k x) = H m t s lo hi c σ k := by
  have := H_at h hC hk (x - t (lo k)).toNat (by omega)
  rwa [show t (lo k) + ((x - t (lo k)).toNat : Int) = x by omega] at this

/-- The flow that passes below node v. -/
def Pass (m : Nat) (t s : Nat → Int) (lo hi : Nat → Nat) (c : Nat → Int) (L : Int) (σ : Nat → Int) (v : Nat) : Int :=
  sumN (fun l => if (t (lo l) < t v ∧ t v < t (hi l)) ∧ Y t s lo hi c l (t v) < L * s v then σ l else 0) m

theorem H_lo (h : Dr n m t s lo hi c L) {k : Nat} (hk : k < m) :
    H m t s lo hi c σ k = Pass m t s lo hi c L σ (lo k) + sumN (fun l => if lo l = lo k ∧ y t s lo hi c l (t (lo k)) ≤ y t s lo hi c k (t (lo k)) then σ l else 0) m := by
  unfold H N Pass
  rw [← sumN_add]
  refine sumN_congr fun l hl => ?_
  have hlt := h.lt l hl
  by_cases e : lo l = lo k
  · rw [if_neg (c := (t (lo l) < t (lo k) ∧ t (lo k) < t (hi l)) ∧ _) (by rw [e]; omega)]
    by_cases q : y t s lo hi c l (t (lo k)) ≤ y t s lo hi c k (t (lo k))
    · rw [if_pos ⟨⟨by rw [e]; omega, by rw [← e]; omega⟩, q⟩, if_pos ⟨e, q⟩]; omega
    · rw [if_neg (fun p => q p.2), if_neg (fun p => q p.2)]; rfl
  · rw [if_neg (c := lo l = lo k ∧ _) (fun p => e p.1)]
    have n1 : t (lo l) ≠ t (lo k) := fun q => e (h.inj _ _ (h.nlo l hl) (h.nlo k hk) q)
    by_cases g : t (lo l) < t (lo k) ∧ t (lo k) < t (hi l)
    · have hs := (starts h hl hk (h.nlo k hk) g.1 g.2 rfl).2.1
      by_cases q : y t s lo hi c l (t (lo k)) ≤ y t s lo hi c k (t (lo k))
      · rw [if_pos ⟨⟨by omega, by omega⟩, q⟩, if_pos ⟨g, hs.1 q⟩]; omega
      · rw [if_neg (fun p => q p.2), if_neg (fun p => q (hs.2 p.2))]; rfl
    · rw [if_neg (by omega), if_neg (fun p => g p.1)]; rfl
theorem H_hi (h : Dr n m t s lo hi c L) (hC : Circ n m lo hi σ) {k : Nat} (hk : k < m) :
    H m t s lo hi c σ k = Pass m t s lo hi c L σ (hi k) + sumN (fun l => if hi l = hi k ∧ y t s lo hi c l (t (hi k) - 1) ≤ y t s lo hi c k (t (hi k) - 1) then σ l else 0) m := by
  have hkt := h.lt k hk
  rw [← H_any h hC hk (x := t (hi k) - 1) (by omega) (by omega)]
  unfold N Pass
  rw [← sumN_add]
  refine sumN_congr fun l hl => ?_
  have hlt := h.lt l hl
  by_cases e : hi l = hi k
  · rw [if_neg (c := (t (lo l) < t (hi k) ∧ t (hi k) < t (hi l)) ∧ _) (by rw [e]; omega)]
    by_cases q : y t s lo hi c l (t (hi k) - 1) ≤ y t s lo hi c k (t (hi k) - 1)
    · rw [if_pos ⟨⟨by rw [← e]; omega, by rw [e]; omega⟩, q⟩, if_pos ⟨e, q⟩]; omega
    · rw [if_neg (fun p => q p.2), if_neg (fun p => q p.2)]; rfl
  · rw [if_neg (c := hi l = hi k ∧ _) (fun p => e p.1)]
    have n1 : t (hi l) ≠ t (hi k) := fun q => e (h.inj _ _ (h.nhi l hl) (h.nhi k hk) q)
    by_cases g : t (lo l) < t (hi k) ∧ t (hi k) < t (hi l)
    · have hs := (ends h hl hk (h.nhi k hk) g.1 g.2 rfl).2.1
      by_cases q : y t s lo hi c l (t (hi k) - 1) ≤ y t s lo hi c k (t (hi k) - 1)
      · rw [if_pos ⟨⟨by omega, by omega⟩, q⟩, if_pos ⟨g, hs.1 q⟩]; omega
      · rw [if_neg (fun p => q p.2), if_neg (fun p => q (hs.2 p.2))]; rfl
    · rw [if_neg (by omega), if_neg (fun p => g p.1)]; rfl
end
end Go.Proofs.YtgmhmlhdiklaaaaGreatDoor.Geo

/- GeoD -/
namespace Go.Proofs.YtgmhmlhdiklaaaaGreatDoor.Geo

/-- Where dart d begins: lead k has the darts 2 k (from a k to b k) and 2 k + 1. -/
def fr (a b : Nat → Nat) (d : Nat) : Nat := if d % 2 = 0 then a (d / 2) else b (d / 2)
def tw (d : Nat) : Nat := if d % 2 = 0 then d + 1 else d - 1
theorem tw_tw (d : Nat) : tw (tw d) = d := by unfold tw; split <;> split <;> omega
theorem tw_half (d : Nat) : tw d / 2 = d / 2 := by unfold tw; split <;> omega
theorem tw_lt {d m : Nat} (h : d < 2 * m) : tw d < 2 * m := by unfold tw; split <;> omega
theorem sumN_pairs (g : Nat → Int) : ∀ m, sumN g (2 * m) = sumN (fun l => g (2 * l) + g (2 * l + 1)) m
  | 0 => rfl
  | m + 1 => by
    show sumN g (2 * m) + g (2 * m) + g (2 * m + 1) = sumN (fun l => g (2 * l) + g (2 * l + 1)) m + (g (2 * m) + g (2 * m + 1))
    rw [sumN_pairs g m]; omega

def lo' (t : Nat → Int) (a b : Nat → Nat) (k : Nat) : Nat := if t (a k) < t (b k) then a k else b k
def hi' (t : Nat → Int) (a b : Nat → Nat) (k : Nat) : Nat := if t (a k) < t (b k) then b k else a k
/-- Does dart d go to the right (to greater t)? -/
def rt (t : Nat → Int) (a b : Nat → Nat) (d : Nat) : Bool := decide (t (fr a b d) < t (fr a b (tw d)))
/-- The right-going dart of lead k. -/
def rd (t : Nat → Int) (a b : Nat → Nat) (k : Nat) : Nat := if t (a k) < t (b k) then 2 * k else 2 * k + 1

section
variable {n m : Nat} {t s : Nat → Int} {a b : Nat → Nat} {c : Nat → Int} {L : Int} {F : Nat → Int}

theorem fr_even (k : Nat) : fr a b (2 * k) = a k := by unfold fr; rw [if_pos (by omega)]; congr 1; omega
theorem fr_odd (k : Nat) : fr a b (2 * k + 1) = b k := by unfold fr; rw [if_neg (by omega)]; congr 1; omega
theorem tw_even (k : Nat) : tw (2 * k) = 2 * k + 1 := by unfold tw; rw [if_pos (by omega)]
theorem tw_odd (k : Nat) : tw (2 * k + 1) = 2 * k := by unfold tw; rw [if_neg (by omega)]; omega

/-- What F counts on the two darts of a lead. -/
def tau (F : Nat → Int) (d : Nat) : Int := F d - F (tw d)
theorem tau_tw (F : Nat → Int) (d : Nat) : tau F (tw d) = - tau F d := by unfold tau; rw [tw_tw]; omega
def sig (t : Nat → Int) (a b : Nat → Nat) (F : Nat → Int) (k : Nat) : Int := tau F (rd t a b k)

variable (h : Dr n m t s (lo' t a b) (hi' t a b) c L)
include h

theorem rd_fr {k : Nat} (hk : k < m) : fr a b (rd t a b k) = lo' t a b k ∧ fr a b (tw (rd t a b k)) = hi' t a b k := by
  have hlt := h.lt k hk
  unfold lo' hi' at hlt
  unfold rd lo' hi'
  by_cases g : t (a k) < t (b k)
  · simp only [if_pos g]; rw [tw_even, fr_even, fr_odd]; exact ⟨rfl, rfl⟩
  · simp only [if_neg g]; rw [tw_odd, fr_even, fr_odd]; exact ⟨rfl, rfl⟩
theorem dart_cases {d : Nat} (hd : d < 2 * m) : (d = rd t a b (d / 2) ∧ rt t a b d = true ∧ fr a b d = lo' t a b (d / 2)) ∨ (d = tw (rd t a b (d / 2)) ∧ rt t a b d = false ∧ fr a b d = hi' t a b (d / 2)) := by
  have hk : d / 2 < m := by omega
  have hlt := h.lt _ hk
  have hr := rd_fr h hk
  have e2 : d = rd t a b (d / 2) ∨ d = tw (rd t a b (d / 2)) := by
    unfold rd
    by_cases g : t (a (d / 2)) < t (b (d / 2))
    · rw [if_pos g, tw_even]; omega
    · rw [if_neg g, tw_odd]; omega
  rcases e2 with e | e
  · refine .inl ⟨e, ?_, ?_⟩
    · unfold rt; rw [e]; rw [hr.1, hr.2]; simpa using hlt
    · rw [← hr.1, ← e]
  · refine .inr ⟨e, ?_, ?_⟩
    · unfold rt; rw [e, tw_tw, hr.1, hr.2]; simp; omega
    · rw [← hr.2, ← e]
omit h in
theorem sum_darts (g : Nat → Int) : sumN g (2 * m) = sumN (fun l => g (rd t a b l) + g (tw (rd t a b l))) m := by
  rw [sumN_pairs]
  refine sumN_congr fun l _ => ?_
  unfold rd
  by_cases q : t (a l) < t (b l)
  · rw [if_pos q, tw_even]
  · rw [if_neg q, tw_odd]; omega
omit h in
theorem rd_half (k : Nat) : rd t a b k / 2 = k := by unfold rd; split <;> omega

/-- The order of the darts that leave a node: to the right from below to above, then to the left from above to below. -/
abbrev Bef (t s : Nat → Int) (a b : Nat → Nat) (c : Nat → Int) (v : Nat) (d e : Nat) : Prop :=
  (rt t a b d = true ∧ rt t a b e = false) ∨
  (rt t a b d = true ∧ rt t a b e = true ∧ y t s (lo' t a b) (hi' t a b) c (d / 2) (t v) < y t s (lo' t a b) (hi' t a b) c (e / 2) (t v)) ∨
  (rt t a b d = false ∧ rt t a b e = false ∧ y t s (lo' t a b) (hi' t a b) c (e / 2) (t v - 1) < y t s (lo' t a b) (hi' t a b) c (d / 2) (t v - 1))

/-- The value to the left of dart d. -/
def hL (m : Nat) (t s : Nat → Int) (a b : Nat → Nat) (c : Nat → Int) (F : Nat → Int) (d : Nat) : Int :=
  if rt t a b d = true then H m t s (lo' t a b) (hi' t a b) c (sig t a b F) (d / 2) else H m t s (lo' t a b) (hi' t a b) c (sig t a b F) (d / 2) - sig t a b F (d / 2)

theorem hL_tw {d : Nat} (hd : d < 2 * m) : hL m t s a b c F d - hL m t s a b c F (tw d) = tau F d := by
  have hd' := tw_lt hd
  unfold hL
  rw [tw_half]
  rcases dart_cases h hd with ⟨e, hr, _⟩ | ⟨e, hr, _⟩ <;> rcases dart_cases h hd' with ⟨e', hr', _⟩ | ⟨e', hr', _⟩ <;> rw [tw_half] at e'
  · exfalso
    have : d = tw d := e.trans e'.symm
    unfold tw at this; split at this <;> omega
  · rw [if_pos hr, if_neg (by rw [hr']; simp)]
    unfold sig
    rw [← e]; omega
  · rw [if_neg (by rw [hr]; simp), if_pos hr']
    unfold sig
    have : tau F d = - tau F (rd t a b (d / 2)) := by rw [← tau_tw, ← e]
    omega
  · exfalso
    have : d = tw d := e.trans e'.symm
    unfold tw at this; split at this <;> omega

/-- What lies to the right of a dart that leaves v: what passes below v, and the darts that leave v before it. -/
theorem right_of (hC : Circ n m (lo' t a b) (hi' t a b) (sig t a b F)) {d : Nat} (hd : d < 2 * m) {v : Nat} (hv : fr a b d = v) :
    hL m t s a b c F d - tau F d = Pass m t s (lo' t a b) (hi' t a b) c L (sig t a b F) v + sumN (fun e => if fr a b e = v ∧ Bef t s a b c v e d then tau F e else 0) (2 * m) := by
  have hk : d / 2 < m := by omega
  rw [sum_darts]
  have hrt : ∀ l, l < m → rt t a b (rd t a b l) = true ∧ rt t a b (tw (rd t a b l)) = false := by
    intro l hl
    have hlt := h.lt l hl
    have hr := rd_fr h hl
    unfold rt
    rw [tw_tw, hr.1, hr.2]
    simp; omega
  rcases dart_cases h hd with ⟨e, hr, hf⟩ | ⟨e, hr, hf⟩
  · have ev : lo' t a b (d / 2) = v := by rw [← hf, hv]
    have hH := H_lo (σ := sig t a b F) h hk
    rw [ev] at hH
    unfold hL
    rw [if_pos hr]
    have etau : tau F d = sig t a b F (d / 2) := by unfold sig; rw [← e]
    rw [etau, hH]
    have hsum : sumN (fun l => (if fr a b (rd t a b l) = v ∧ Bef t s a b c v (rd t a b l) d then tau F (rd t a b l) else 0) + (if fr a b (tw (rd t a b l)) = v ∧ Bef t s a b c v (tw (rd t a b l)) d then tau F (tw (rd t a b l)) else 0)) m =
        sumN (fun l => (if lo' t a b l = v ∧ y t s (lo' t a b) (hi' t a b) c l (t v) ≤ y t s (lo' t a b) (hi' t a b) c (d / 2) (t v) then sig t a b F l else 0) - (if l = d / 2 then sig t a b F (d / 2) else 0)) m := by
      refine sumN_congr fun l hl => ?_
      have hlr := hrt l hl
      have hlf := rd_fr h hl
      have b2 : ¬ Bef t s a b c v (tw (rd t a b l)) d := by
        unfold Bef; rw [hlr.2, hr]; simp
      rw [if_neg (c := fr a b (tw (rd t a b l)) = v ∧ _) (fun p => b2 p.2), hlf.1]
      by_cases el : l = d / 2
      · subst el
        have b1 : ¬ Bef t s a b c v (rd t a b (d / 2)) d := by
          unfold Bef; rw [hlr.1, hr, rd_half]; simp
        rw [if_neg (fun p => b1 p.2), if_pos ⟨ev, Int.le_refl _⟩, if_pos rfl]; omega
      · rw [if_neg el]
        by_cases lv : lo' t a b l = v
        · have hne := order_ne h hk hl (Ne.symm el) (x := t v) (by rw [ev]; omega) (by rw [lv]; omega) (by have := h.lt _ hk; rw [ev] at this; omega) (by have := h.lt _ hl; rw [lv] at this; omega)
          have b1 : Bef t s a b c v (rd t a b l) d ↔ y t s (lo' t a b) (hi' t a b) c l (t v) ≤ y t s (lo' t a b) (hi' t a b) c (d / 2) (t v) := by
            unfold Bef; rw [hlr.1, hr, rd_half]; simp; omega
          by_cases q : y t s (lo' t a b) (hi' t a b) c l (t v) ≤ y t s (lo' t a b) (hi' t a b) c (d / 2) (t v)
          · rw [if_pos ⟨lv, b1.2 q⟩, if_pos ⟨lv, q⟩]; unfold sig; omega
          · rw [if_neg (fun p => q (b1.1 p.2)), if_neg (fun p => q p.2)]; rfl
        · rw [if_neg (fun p => lv p.1), if_neg (fun p => lv p.1)]; rfl
    rw [hsum, sumN_sub, sumN_one _ _ _ hk]
    omega
  · have ev : hi' t a b (d / 2) = v := by rw [← hf, hv]
    have hvn : v < n := by rw [← ev]; exact h.nhi _ hk
    have hH := H_hi (σ := sig t a b F) h hC hk
    rw [ev] at hH
    unfold hL
    rw [if_neg (by rw [hr]; simp)]
    have etau : tau F d = - sig t a b F (d / 2) := by unfold sig; rw [← tau_tw, ← e]
    have hsum : sumN (fun l => (if fr a b (rd t a b l) = v ∧ Bef t s a b c v (rd t a b l) d then tau F (rd t a b l) else 0) + (if fr a b (tw (rd t a b l)) = v ∧ Bef t s a b c v (tw (rd t a b l)) d then tau F (tw (rd t a b l)) else 0)) m =
        sumN (fun l => (if hi' t a b l = v ∧ y t s (lo' t a b) (hi' t a b) c l (t v - 1) ≤ y t s (lo' t a b) (hi' t a b) c (d / 2) (t v - 1) then sig t a b F l else 0) + ((if lo' t a b l = v then sig t a b F l else 0) - (if hi' t a b l = v then sig t a b F l else 0))) m := by
      refine sumN_congr fun l hl => ?_
      have hlr := hrt l hl
      have hlf := rd_fr h hl
      have b1 : Bef t s a b c v (rd t a b l) d := by unfold Bef; rw [hlr.1, hr]; simp
      have b2 : Bef t s a b c v (tw (rd t a b l)) d ↔ ¬ y t s (lo' t a b) (hi' t a b) c l (t v - 1) ≤ y t s (lo' t a b) (hi' t a b) c (d / 2) (t v - 1) := by
        unfold Bef; rw [hlr.2, hr, tw_half, rd_half]; simp
      rw [hlf.1, hlf.2, tau_tw]
      have e1 : (if lo' t a b l = v ∧ Bef t s a b c v (rd t a b l) d then tau F (rd t a b l) else 0) = if lo' t a b l = v then sig t a b F l else 0 := by
        by_cases lv : lo' t a b l = v
        · rw [if_pos ⟨lv, b1⟩, if_pos lv]; rfl
        · rw [if_neg (fun p => lv p.1), if_neg lv]
      have e2 : (if hi' t a b l = v ∧ Bef t s a b c v (tw (rd t a b l)) d then - tau F (rd t a b l) else 0) = (if hi' t a b l = v ∧ y t s (lo' t a b) (hi' t a b) c l (t v - 1) ≤ y t s (lo' t a b) (hi' t a b) c (d / 2) (t v - 1) then sig t a b F l else 0) - (if hi' t a b l = v then sig t a b F l else 0) := by
        by_cases hvl : hi' t a b l = v
        · by_cases q : y t s (lo' t a b) (hi' t a b) c l (t v - 1) ≤ y t s (lo' t a b) (hi' t a b) c (d / 2) (t v - 1)
          · rw [if_neg (fun p => b2.1 p.2 q), if_pos ⟨hvl, q⟩, if_pos hvl]; omega
          · rw [if_pos ⟨hvl, b2.2 q⟩, if_neg (fun p => q p.2), if_pos hvl]; unfold sig; omega
        · rw [if_neg (fun p => hvl p.1), if_neg (fun p => hvl p.1), if_neg hvl]; rfl
      rw [e1, e2]
      omega
    rw [hsum, sumN_add, hC v hvn, etau, hH]
    omega

/-- x is the one before d among the darts that leave v, going around. -/
def Prev (m : Nat) (t s : Nat → Int) (a b : Nat → Nat) (c : Nat → Int) (v x d : Nat) : Prop :=
  (Bef t s a b c v x d ∧ ∀ e, e < 2 * m → fr a b e = v → ¬ (Bef t s a b c v x e ∧ Bef t s a b c v e d)) ∨
  ((∀ e, e < 2 * m → fr a b e = v → ¬ Bef t s a b c v e d) ∧ ∀ e, e < 2 * m → fr a b e = v → ¬ Bef t s a b c v x e)

omit h in
theorem Bef.trans_ {v d e f : Nat} (h1 : Bef t s a b c v d e) (h2 : Bef t s a b c v e f) : Bef t s a b c v d f := by
  unfold Bef at *
  rcases h1 with ⟨p1, p2⟩ | ⟨p1, p2, p3⟩ | ⟨p1, p2, p3⟩ <;> rcases h2 with ⟨q1, q2⟩ | ⟨q1, q2, q3⟩ | ⟨q1, q2, q3⟩ <;> simp_all
  all_goals omega
theorem Bef.total {v d e : Nat} (hd : d < 2 * m) (he : e < 2 * m) (d1 : fr a b d = v) (e1 : fr a b e = v) (hne : d ≠ e) : Bef t s a b c v d e ∨ Bef t s a b c v e d := by
  unfold Bef
  rcases dart_cases h hd with ⟨g, hr, hf⟩ | ⟨g, hr, hf⟩ <;> rcases dart_cases h he with ⟨g', hr', hf'⟩ | ⟨g', hr', hf'⟩
  · have hk : d / 2 ≠ e / 2 := by intro q; rw [q] at g; exact hne (g.trans g'.symm)
    have e3 := h.lt (d / 2) (by omega)
    have e4 := h.lt (e / 2) (by omega)
    rw [← hf, d1] at e3
    rw [← hf', e1] at e4
    have := order_ne h (by omega : e / 2 < m) (by omega : d / 2 < m) (Ne.symm hk) (x := t v) (by rw [← hf', e1]; omega) (by rw [← hf, d1]; omega) e4 e3
    simp [hr, hr']; omega
  · simp [hr, hr']
  · simp [hr, hr']
  · have hk : d / 2 ≠ e / 2 := by intro q; rw [q] at g; exact hne (g.trans g'.symm)
    have e3 := h.lt (d / 2) (by omega)
    have e4 := h.lt (e / 2) (by omega)
    rw [← hf, d1] at e3
    rw [← hf', e1] at e4
    have := order_ne h (by omega : e / 2 < m) (by omega : d / 2 < m) (Ne.symm hk) (x := t v - 1) (by omega) (by omega) (by rw [← hf', e1]; omega) (by rw [← hf, d1]; omega)
    simp [hr, hr']; omega
omit h in
theorem Bef.irr {v d : Nat} : ¬ Bef t s a b c v d d := by
  unfold Bef
  rintro (⟨p1, p2⟩ | ⟨p1, p2, p3⟩ | ⟨p1, p2, p3⟩)
  · rw [p1] at p2; cases p2
  · omega
  · omega

/-- The value to the left does not change at a node. -/
theorem hL_next (hC : Circ n m (lo' t a b) (hi' t a b) (sig t a b F)) {d x v : Nat} (hd : d < 2 * m) (hx : x < 2 * m) (hdv : fr a b d = v) (hxv : fr a b x = v) (hp : Prev m t s a b c v x d) :
    hL m t s a b c F (tw d) = hL m t s a b c F x := by
  have hvn : v < n := by
    rw [← hdv]
    rcases dart_cases h hd with ⟨_, _, hf⟩ | ⟨_, _, hf⟩
    · rw [hf]; exact h.nlo _ (by omega)
    · rw [hf]; exact h.nhi _ (by omega)
  have r1 := right_of h hC hd hdv
  have r2 := right_of h hC hx hxv
  have ht := hL_tw h hd (F := F)
  have goal : sumN (fun e => if fr a b e = v ∧ Bef t s a b c v e d then tau F e else 0) (2 * m) = sumN (fun e => if fr a b e = v ∧ Bef t s a b c v e x then tau F e else 0) (2 * m) + tau F x := by
    rcases hp with ⟨p1, p2⟩ | ⟨p1, p2⟩
    · rw [← sumN_one x (tau F x) (2 * m) hx, ← sumN_add]
      refine sumN_congr fun e he => ?_
      by_cases ev : fr a b e = v
      · by_cases ex : e = x
        · subst ex
          rw [if_pos ⟨ev, p1⟩, if_neg (fun q => Bef.irr q.2), if_pos rfl]; omega
        · rw [if_neg ex]
          by_cases q : Bef t s a b c v e x
          · rw [if_pos ⟨ev, q.trans_ p1⟩, if_pos ⟨ev, q⟩]; omega
          · have q2 : ¬ Bef t s a b c v e d := fun q2 => by
              rcases Bef.total h he hx ev hxv ex with q3 | q3
              · exact q q3
              · exact p2 e he ev ⟨q3, q2⟩
            rw [if_neg (fun p => q2 p.2), if_neg (fun p => q p.2)]; rfl
      · have ex : e ≠ x := by rintro rfl; exact ev hxv
        rw [if_neg (fun p => ev p.1), if_neg (fun p => ev p.1), if_neg ex]; rfl
    · have z1 : sumN (fun e => if fr a b e = v ∧ Bef t s a b c v e d then tau F e else 0) (2 * m) = 0 := sumN_zero fun e he => by
        by_cases ev : fr a b e = v
        · rw [if_neg (fun q => p1 e he ev q.2)]
        · rw [if_neg (fun q => ev q.1)]
      have z2 : sumN (fun e => if fr a b e = v ∧ Bef t s a b c v e x then tau F e else 0) (2 * m) + tau F x = sumN (fun e => if fr a b e = v then tau F e else 0) (2 * m) := by
        rw [← sumN_one x (tau F x) (2 * m) hx, ← sumN_add]
        refine sumN_congr fun e he => ?_
        by_cases ev : fr a b e = v
        · rw [if_pos ev]
          by_cases ex : e = x
          · subst ex
            rw [if_neg (fun q => Bef.irr q.2), if_pos rfl]; omega
          · rw [if_neg ex]
            rcases Bef.total h he hx ev hxv ex with q3 | q3
            · rw [if_pos ⟨ev, q3⟩]; omega
            · exact absurd q3 (p2 e he ev)
        · have ex : e ≠ x := by rintro rfl; exact ev hxv
          rw [if_neg (fun p => ev p.1), if_neg ev, if_neg ex]; rfl
      have z3 : sumN (fun e => if fr a b e = v then tau F e else 0) (2 * m) = 0 := by
        rw [sum_darts]
        refine Eq.trans (sumN_congr fun l hl => ?_) (hC v hvn)
        have hlf := rd_fr h hl
        rw [hlf.1, hlf.2, tau_tw]
        unfold sig
        have hlt := h.lt l hl
        by_cases g1 : lo' t a b l = v
        · have g2 : hi' t a b l ≠ v := by intro g2; rw [g1, g2] at hlt; omega
          rw [if_pos g1, if_neg g2]; omega
        · by_cases g2 : hi' t a b l = v
          · rw [if_neg g1, if_pos g2]; omega
          · rw [if_neg g1, if_neg g2, if_neg g2]; rfl
      rw [z1, z2, z3]
  omega
end
end Go.Proofs.YtgmhmlhdiklaaaaGreatDoor.Geo

/- GeoE -/
namespace Go.Proofs.YtgmhmlhdiklaaaaGreatDoor.Geo
open Ring

theorem sumN_at (v : Nat) (g : Nat → Int) : ∀ n, v < n → sumN (fun k => if k = v then g k else 0) n = g v
  | 0, h => by omega
  | n + 1, h => by
    show sumN (fun k => if k = v then g k else 0) n + (if n = v then g n else 0) = g v
    by_cases e : n = v
    · subst e
      rw [if_pos rfl, sumN_zero (fun k hk => if_neg (by omega))]; omega
    · rw [if_neg e, sumN_at v g n (by omega)]; omega
theorem bij_onto {nx : Nat → Nat} {M : Nat} (h : Bij nx M) {v : Nat} (hv : v < M) : ∃ e, e < M ∧ nx e = v := by
  obtain ⟨t, _, e⟩ := returns h hv
  exact ⟨it nx v t, it_lt h hv t, e⟩
/-- A sum over a bijection. -/
theorem sumN_bij {nx : Nat → Nat} {M : Nat} (h : Bij nx M) (g : Nat → Int) : sumN (fun e => g (nx e)) M = sumN g M := by
  have h1 : sumN (fun e => g (nx e)) M = sumN (fun e => sumN (fun v => if v = nx e then g v else 0) M) M :=
    sumN_congr fun e he => (sumN_at (nx e) g M (h.lt e he)).symm
  rw [h1, sumN_comm (fun e v => if v = nx e then g v else 0)]
  refine sumN_congr fun v hv => ?_
  obtain ⟨e0, h0, h2⟩ := bij_onto h hv
  refine Eq.trans (sumN_congr fun e he => ?_) (sumN_at e0 (fun _ => g v) M h0)
  by_cases q : e = e0
  · subst q; rw [if_pos h2.symm, if_pos rfl]
  · rw [if_neg (fun p => q (h.inj _ _ he h0 (p.symm.trans h2.symm))), if_neg q]
theorem tw_bij (m : Nat) : Bij tw (2 * m) := ⟨fun d hd => tw_lt hd, fun d e _ _ h => by have := congrArg tw h; rwa [tw_tw, tw_tw] at this⟩

section
variable {n m : Nat} {t s : Nat → Int} {a b : Nat → Nat} {c : Nat → Int} {L : Int} {F : Nat → Int} {nx : Nat → Nat}

variable (h : Dr n m t s (lo' t a b) (hi' t a b) c L)
include h
/-- What is the same along every face is a flow. -/
theorem circ_of (hb : Bij nx (2 * m)) (hf : ∀ d, d < 2 * m → fr a b (nx d) = fr a b (tw d)) (hF : ∀ d, d < 2 * m → F (nx d) = F d) : Circ n m (lo' t a b) (hi' t a b) (sig t a b F) := by
  intro v hv
  have e1 : sumN (fun e => if fr a b e = v then F (tw e) else 0) (2 * m) = sumN (fun e => if fr a b (tw e) = v then F e else 0) (2 * m) := by
    have := sumN_bij (tw_bij m) (fun e => if fr a b (tw e) = v then F e else 0)
    rw [← this]
    refine sumN_congr fun e he => ?_
    rw [tw_tw]
  have e2 : sumN (fun e => if fr a b (tw e) = v then F e else 0) (2 * m) = sumN (fun e => if fr a b e = v then F e else 0) (2 * m) := by
    rw [← sumN_bij hb (fun e => if fr a b e = v then F e else 0)]
    refine sumN_congr fun e he => ?_
    rw [hf e he, hF e he]
  have e3 : sumN (fun e => if fr a b e = v then tau F e else 0) (2 * m) = 0 := by
    have e4 := sumN_sub (fun e => if fr a b e = v then F e else 0) (fun e => if fr a b e = v then F (tw e) else 0) (2 * m)
    rw [e1, e2, Int.sub_self] at e4
    rw [← e4]
    refine sumN_congr fun e he => ?_
    unfold tau
    split <;> omega
  refine Eq.trans ?_ e3
  rw [sum_darts (t := t) (a := a) (b := b)]
  refine sumN_congr fun l hl => ?_
  have hlf := rd_fr h hl
  rw [hlf.1, hlf.2, tau_tw]
  unfold sig
  have hlt := h.lt l hl
  by_cases g1 : lo' t a b l = v
  · have g2 : hi' t a b l ≠ v := by intro g2; rw [g1, g2] at hlt; omega
    simp only [if_pos g1, if_neg g2]; omega
  · by_cases g2 : hi' t a b l = v
    · simp only [if_neg g1, if_pos g2]; omega
    · simp only [if_neg g1, if_neg g2]; omega

theorem fr_lt {d : Nat} (hd : d < 2 * m) : fr a b d < n := by
  rcases dart_cases h hd with ⟨_, _, hf⟩ | ⟨_, _, hf⟩
  · rw [hf]; exact h.nlo _ (by omega)
  · rw [hf]; exact h.nhi _ (by omega)

/-- The value to the left, less the face's indicator. -/
def gap (m : Nat) (t s : Nat → Int) (a b : Nat → Nat) (c : Nat → Int) (F : Nat → Int) (d : Nat) : Int := hL m t s a b c F d - F d
theorem gap_tw {d : Nat} (hd : d < 2 * m) : gap m t s a b c F (tw d) = gap m t s a b c F d := by
  have := hL_tw h hd (F := F)
  unfold gap
  unfold tau at this
  omega
theorem gap_nx (hb : Bij nx (2 * m)) (hf : ∀ d, d < 2 * m → fr a b (nx d) = fr a b (tw d)) (hF : ∀ d, d < 2 * m → F (nx d) = F d) (hP : ∀ d, d < 2 * m → Prev m t s a b c (fr a b (tw d)) (nx d) (tw d)) {d : Nat} (hd : d < 2 * m) :
    gap m t s a b c F (nx d) = gap m t s a b c F d := by
  have hC := circ_of h hb hf hF
  have := hL_next h hC (tw_lt hd) (hb.lt d hd) rfl (hf d hd) (hP d hd)
  rw [tw_tw] at this
  unfold gap
  rw [← this, hF d hd]

/-- All darts have one gap, if the drawing hangs together. -/
theorem gap_all (hb : Bij nx (2 * m)) (hf : ∀ d, d < 2 * m → fr a b (nx d) = fr a b (tw d)) (hF : ∀ d, d < 2 * m → F (nx d) = F d) (hP : ∀ d, d < 2 * m → Prev m t s a b c (fr a b (tw d)) (nx d) (tw d))
    (ring : Nat → List Nat) (hr1 : ∀ v d, d ∈ ring v ↔ d < 2 * m ∧ fr a b d = v) (hr2 : ∀ v, (ring v).Nodup) (hr3 : ∀ d, d < 2 * m → nx d = prd (ring (fr a b (tw d))) (tw d))
    (hw : ∀ i, i < n → Net.lab a b m i = 0) {d e : Nat} (hd : d < 2 * m) (he : e < 2 * m) : gap m t s a b c F d = gap m t s a b c F e := by
  -- at one node
  have at1 : ∀ v i, i + 1 < (ring v).length → gap m t s a b c F ((ring v).getD i 0) = gap m t s a b c F ((ring v).getD (i + 1) 0) := by
    intro v i hi
    have hm1 : (ring v).getD (i + 1) 0 ∈ ring v := by
      rw [List.getD_eq_getElem?_getD, List.getElem?_eq_getElem hi]; exact List.getElem_mem hi
    have hx := (hr1 v _).1 hm1
    have hx2 := tw_lt hx.1
    have e1 := hr3 _ hx2
    rw [tw_tw, hx.2] at e1
    have e2 : prd (ring v) ((ring v).getD (i + 1) 0) = (ring v).getD i 0 := by
      have e3 : idx (ring v) ((ring v).getD (i + 1) 0) = i + 1 := nodup_get (hr2 v) (idx_lt hm1) hi (idx_get hm1)
      unfold prd
      rw [e3, show i + 1 + (ring v).length - 1 = i + (ring v).length by omega, Nat.add_mod_right, Nat.mod_eq_of_lt (by omega)]
    rw [← e2, ← e1, gap_nx h hb hf hF hP hx2, gap_tw h hx.1]
  have at2 : ∀ v i, i < (ring v).length → gap m t s a b c F ((ring v).getD i 0) = gap m t s a b c F ((ring v).getD 0 0) := by
    intro v i
    induction i with
    | zero => intro _; rfl
    | succ i ih => intro hi; rw [← at1 v i hi]; exact ih (by omega)
  have at3 : ∀ x y, x < 2 * m → y < 2 * m → fr a b x = fr a b y → gap m t s a b c F x = gap m t s a b c F y := by
    intro x y hx hy exy
    have m1 := (hr1 (fr a b y) x).2 ⟨hx, exy⟩
    have m2 := (hr1 (fr a b y) y).2 ⟨hy, rfl⟩
    have g1 := at2 _ _ (idx_lt m1)
    have g2 := at2 _ _ (idx_lt m2)
    rw [idx_get m1] at g1
    rw [idx_get m2] at g2
    rw [g1, g2]
  -- along leads
  have hCC : ∀ k, k < m → ((∀ x, x < 2 * m → fr a b x = a k → gap m t s a b c F x = gap m t s a b c F e) ↔ (∀ x, x < 2 * m → fr a b x = b k → gap m t s a b c F x = gap m t s a b c F e)) := by
    intro k hk
    have k1 : 2 * k < 2 * m := by omega
    have k2 : 2 * k + 1 < 2 * m := by omega
    have kk := gap_tw h k1 (F := F)
    rw [tw_even] at kk
    constructor
    · intro q x hx hxk
      rw [at3 x (2 * k + 1) hx k2 (by rw [hxk, fr_odd]), kk]
      exact q _ k1 (fr_even k)
    · intro q x hx hxk
      rw [at3 x (2 * k) hx k1 (by rw [hxk, fr_even]), ← kk]
      exact q _ k2 (fr_odd k)
  have hin := Net.lab_in (m := m) (C := fun i => ∀ x, x < 2 * m → fr a b x = i → gap m t s a b c F x = gap m t s a b c F e) hCC m (Nat.le_refl m)
  have c1 := hin (fr a b e)
  have c2 := hin (fr a b d)
  rw [hw _ (fr_lt h he)] at c1
  rw [hw _ (fr_lt h hd)] at c2
  exact c2.1 (c1.2 (fun x hx hxe => at3 x e hx he hxe)) d hd rfl

/-- The first dart at the drawing's left end has nothing to its right. -/
theorem gap_outer (hC : Circ n m (lo' t a b) (hi' t a b) (sig t a b F)) {o : Nat} (ho : o < 2 * m) (hmin : ∀ e, e < 2 * m → t (fr a b o) ≤ t (fr a b e)) (hfst : ∀ e, e < 2 * m → fr a b e = fr a b o → ¬ Bef t s a b c (fr a b o) e o) :
    gap m t s a b c F o = - F (tw o) := by
  have r1 := right_of h hC ho rfl
  have hp : Pass m t s (lo' t a b) (hi' t a b) c L (sig t a b F) (fr a b o) = 0 := by
    unfold Pass
    refine sumN_zero fun l hl => if_neg ?_
    rintro ⟨⟨q, _⟩, _⟩
    have := hmin (rd t a b l) (by unfold rd; split <;> omega)
    rw [(rd_fr h hl).1] at this
    omega
  rw [hp, sumN_zero (fun e he => if_neg (fun q => hfst e he q.1 q.2))] at r1
  unfold gap
  unfold tau at r1
  omega
end
end Go.Proofs.YtgmhmlhdiklaaaaGreatDoor.Geo

/- GeoF -/
namespace Go.Proofs.YtgmhmlhdiklaaaaGreatDoor.Geo
open Ring

/-- Twice the area under a straight line, strip by strip. -/
theorem trap (al ka a : Int) : ∀ w : Nat, sumN (fun i => (al + ka * (a + i)) + (al + ka * (a + i + 1))) w = (w : Int) * ((al + ka * a) + (al + ka * (a + w)))
  | 0 => by simp [sumN]
  | w + 1 => by
    show sumN (fun i => (al + ka * (a + i)) + (al + ka * (a + i + 1))) w + ((al + ka * (a + w)) + (al + ka * (a + w + 1))) = _
    rw [trap al ka a w]
    grind
/-- A sum over a part of a range. -/
theorem sumN_part (g : Int → Int) (T0 x0 : Int) : ∀ (w W : Nat), T0 ≤ x0 → x0 + w ≤ T0 + W → sumN (fun i => if x0 ≤ T0 + i ∧ T0 + i < x0 + w then g (T0 + i) else 0) W = sumN (fun i => g (x0 + i)) w
  | 0, W, _, _ => by
    show _ = 0
    exact sumN_zero fun i _ => if_neg (by omega)
  | w + 1, W, h1, h2 => by
    show _ = sumN (fun i => g (x0 + i)) w + g (x0 + w)
    have e : T0 + (((x0 + w - T0).toNat : Nat) : Int) = x0 + w := by omega
    have e1 := sumN_at (x0 + w - T0).toNat (fun i => g (T0 + i)) W (by omega)
    rw [e] at e1
    rw [← sumN_part g T0 x0 w W h1 (by omega), ← e1, ← sumN_add]
    refine sumN_congr fun i hi => ?_
    by_cases q : i = (x0 + w - T0).toNat
    · subst q
      rw [if_pos (by omega), if_neg (by omega), if_pos rfl]; omega
    · rw [if_neg q]
      by_cases p : x0 ≤ T0 + i ∧ T0 + i < x0 + w
      · rw [if_pos (by omega), if_pos p]; omega
      · rw [if_neg (by omega), if_neg p]; rfl
/-- A number as a count of heights. -/
theorem layers (M : Nat) (y : Int) (h1 : -(M : Int) ≤ y) (h2 : y ≤ M) : y + M = sumN (fun i => if y ≤ -(M : Int) + i then 0 else 1) (2 * M) := by
  have key : ∀ w : Nat, sumN (fun i => if y ≤ -(M : Int) + i then (0 : Int) else 1) w = min (w : Int) (y + M) := by
    intro w
    induction w with
    | zero => show (0 : Int) = _; omega
    | succ w ih =>
      show sumN (fun i => if y ≤ -(M : Int) + i then (0 : Int) else 1) w + (if y ≤ -(M : Int) + w then 0 else 1) = _
      rw [ih]
      split <;> omega
  rw [key]
  omega

section
variable {n m : Nat} {t s : Nat → Int} {a b : Nat → Nat} {c : Nat → Int} {L : Int} {F : Nat → Int} {lo hi : Nat → Nat} {σ : Nat → Int}

/-- What flows through a whole strip. -/
def Tot (m : Nat) (t : Nat → Int) (lo hi : Nat → Nat) (σ : Nat → Int) (x : Int) : Int := sumN (fun l => if t (lo l) ≤ x ∧ x < t (hi l) then σ l else 0) m
theorem tot_step (h : Dr n m t s lo hi c L) (hC : Circ n m lo hi σ) (x : Int) : Tot m t lo hi σ x = Tot m t lo hi σ (x - 1) := by
  by_cases hv : ∃ v, v < n ∧ t v = x
  · obtain ⟨v, hv, rfl⟩ := hv
    have e := hC v hv
    have e2 := sumN_sub (fun l => if t (lo l) ≤ t v ∧ t v < t (hi l) then σ l else 0) (fun l => if t (lo l) ≤ t v - 1 ∧ t v - 1 < t (hi l) then σ l else 0) m
    unfold Tot
    have e3 : sumN (fun l => (if t (lo l) ≤ t v ∧ t v < t (hi l) then σ l else 0) - (if t (lo l) ≤ t v - 1 ∧ t v - 1 < t (hi l) then σ l else 0)) m = 0 := by
      refine Eq.trans (sumN_congr fun l hl => ?_) e
      have hlt := h.lt l hl
      by_cases g1 : lo l = v
      · have g2 : hi l ≠ v := by intro g2; rw [g1, g2] at hlt; omega
        rw [if_pos g1, if_neg g2]
        subst g1
        rw [if_pos (by omega), if_neg (by omega)]
      · by_cases g2 : hi l = v
        · rw [if_neg g1, if_pos g2]
          subst g2
          rw [if_neg (by omega), if_pos (by omega)]
        · have n1 : t (lo l) ≠ t v := fun q => g1 (h.inj _ _ (h.nlo l hl) hv q)
          have n2 : t (hi l) ≠ t v := fun q => g2 (h.inj _ _ (h.nhi l hl) hv q)
          rw [if_neg g1, if_neg g2]
          by_cases g : t (lo l) ≤ t v ∧ t v < t (hi l)
          · rw [if_pos g, if_pos (by omega)]; omega
          · rw [if_neg g, if_neg (by omega)]
    omega
  · refine sumN_congr fun l hl => ?_
    have n1 : t (lo l) ≠ x := fun q => hv ⟨_, h.nlo l hl, q⟩
    have n2 : t (hi l) ≠ x := fun q => hv ⟨_, h.nhi l hl, q⟩
    by_cases g : t (lo l) ≤ x ∧ x < t (hi l)
    · rw [if_pos g, if_pos (by omega)]
    · rw [if_neg g, if_neg (by omega)]
theorem tot_zero (h : Dr n m t s lo hi c L) (hC : Circ n m lo hi σ) {T0 : Int} (hT : ∀ l, l < m → T0 ≤ t (lo l)) : ∀ i : Nat, Tot m t lo hi σ (T0 - 1 + i) = 0
  | 0 => by
    refine sumN_zero fun l hl => if_neg ?_
    have := hT l hl
    have : ((0 : Nat) : Int) = 0 := rfl
    omega
  | i + 1 => by
    rw [tot_step h hC, show T0 - 1 + ((i + 1 : Nat) : Int) - 1 = T0 - 1 + i by omega]
    exact tot_zero h hC hT i
/-- What lies at and below a height is nothing, or what lies at and below a lead. -/
theorem N_lead (h : Dr n m t s lo hi c L) (x h0 : Int) (hlow : ∀ l, l < m → (t (lo l) ≤ x ∧ x < t (hi l)) → h0 < y t s lo hi c l x) : ∀ i : Nat, N m t s lo hi c σ x (h0 + i) = 0 ∨ ∃ k, k < m ∧ (t (lo k) ≤ x ∧ x < t (hi k)) ∧ N m t s lo hi c σ x (h0 + i) = N m t s lo hi c σ x (y t s lo hi c k x)
  | 0 => by
    left
    refine sumN_zero fun l hl => if_neg ?_
    rintro ⟨g, p⟩
    have := hlow l hl g
    have : ((0 : Nat) : Int) = 0 := rfl
    omega
  | i + 1 => by
    by_cases hk : ∃ k, k < m ∧ (t (lo k) ≤ x ∧ x < t (hi k)) ∧ y t s lo hi c k x = h0 + ((i + 1 : Nat) : Int)
    · obtain ⟨k, h1, h2, h3⟩ := hk
      exact .inr ⟨k, h1, h2, by rw [h3]⟩
    · have e : N m t s lo hi c σ x (h0 + ((i + 1 : Nat) : Int)) = N m t s lo hi c σ x (h0 + i) := by
        refine sumN_congr fun l hl => ?_
        by_cases g : t (lo l) ≤ x ∧ x < t (hi l)
        · have : y t s lo hi c l x ≠ h0 + ((i + 1 : Nat) : Int) := fun q => hk ⟨l, hl, g, q⟩
          by_cases p : y t s lo hi c l x ≤ h0 + i
          · rw [if_pos ⟨g, by omega⟩, if_pos ⟨g, p⟩]
          · rw [if_neg (by omega), if_neg (by omega)]
        · rw [if_neg (fun p => g p.1), if_neg (fun p => g p.1)]
      rw [e]
      exact N_lead h x h0 hlow i
/-- The flow times the heights in a strip, by layers. -/
theorem strip (h : Dr n m t s lo hi c L) (hC : Circ n m lo hi σ) {T0 : Int} (hT : ∀ l, l < m → T0 ≤ t (lo l)) (M : Nat) (x : Int) (hx : T0 ≤ x + 1) (hM : ∀ l, l < m → (t (lo l) ≤ x ∧ x < t (hi l)) → -(M : Int) ≤ y t s lo hi c l x ∧ y t s lo hi c l x ≤ M) :
    sumN (fun l => if t (lo l) ≤ x ∧ x < t (hi l) then σ l * y t s lo hi c l x else 0) m = - sumN (fun i => N m t s lo hi c σ x (-(M : Int) + i)) (2 * M) := by
  have ht : Tot m t lo hi σ x = 0 := by
    have := tot_zero h hC hT (x + 1 - T0).toNat
    rwa [show T0 - 1 + (((x + 1 - T0).toNat : Nat) : Int) = x by omega] at this
  have e1 : sumN (fun l => if t (lo l) ≤ x ∧ x < t (hi l) then σ l * y t s lo hi c l x else 0) m =
      sumN (fun l => sumN (fun i => (if t (lo l) ≤ x ∧ x < t (hi l) then σ l else 0) - (if (t (lo l) ≤ x ∧ x < t (hi l)) ∧ y t s lo hi c l x ≤ -(M : Int) + i then σ l else 0)) (2 * M)) m - M * Tot m t lo hi σ x := by
    unfold Tot
    rw [← sumN_mul, ← sumN_sub]
    refine sumN_congr fun l hl => ?_
    by_cases g : t (lo l) ≤ x ∧ x < t (hi l)
    · have hb := hM l hl g
      simp only [if_pos g]
      have e2 : sumN (fun i => σ l - (if (t (lo l) ≤ x ∧ x < t (hi l)) ∧ y t s lo hi c l x ≤ -(M : Int) + i then σ l else 0)) (2 * M) = sumN (fun i => σ l * (if y t s lo hi c l x ≤ -(M : Int) + i then 0 else 1)) (2 * M) := by
        refine sumN_congr fun i _ => ?_
        by_cases p : y t s lo hi c l x ≤ -(M : Int) + i
        · rw [if_pos ⟨g, p⟩, if_pos p]; omega
        · rw [if_neg (fun q => p q.2), if_neg p]; omega
      rw [e2, sumN_mul, ← layers M _ hb.1 hb.2, Int.mul_add, Int.mul_comm (M : Int)]
      omega
    · simp only [if_neg g]
      rw [sumN_zero (fun i _ => by rw [if_neg (fun q => g q.1)]; rfl), Int.mul_zero]; rfl
  rw [e1, ht, Int.mul_zero, Int.sub_zero, sumN_comm]
  rw [← sumN_neg]
  refine sumN_congr fun i _ => ?_
  rw [sumN_sub]
  show Tot m t lo hi σ x - N m t s lo hi c σ x (-(M : Int) + i) = _
  rw [ht]; omega
/-- A flow does not turn a function of the nodes. -/
theorem pot (hC : Circ n m lo hi σ) (hlo : ∀ l, l < m → lo l < n) (hhi : ∀ l, l < m → hi l < n) (p : Nat → Int) : sumN (fun l => σ l * (p (hi l) - p (lo l))) m = 0 := by
  have e1 : sumN (fun v => p v * sumN (fun l => (if lo l = v then σ l else 0) - (if hi l = v then σ l else 0)) m) n = 0 := sumN_zero fun v hv => by rw [hC v hv, Int.mul_zero]
  have e2 : sumN (fun v => p v * sumN (fun l => (if lo l = v then σ l else 0) - (if hi l = v then σ l else 0)) m) n = sumN (fun l => sumN (fun v => p v * ((if lo l = v then σ l else 0) - (if hi l = v then σ l else 0))) n) m := by
    rw [← sumN_comm]
    refine sumN_congr fun v _ => ?_
    rw [sumN_mul]
  rw [e2] at e1
  have e3 : sumN (fun l => σ l * (p (hi l) - p (lo l))) m = sumN (fun l => - sumN (fun v => p v * ((if lo l = v then σ l else 0) - (if hi l = v then σ l else 0))) n) m := by
    refine sumN_congr fun l hl => ?_
    have a1 := sumN_at (lo l) (fun v => p v * σ l) n (hlo l hl)
    have a2 := sumN_at (hi l) (fun v => p v * σ l) n (hhi l hl)
    have a3 : sumN (fun v => p v * ((if lo l = v then σ l else 0) - (if hi l = v then σ l else 0))) n = p (lo l) * σ l - p (hi l) * σ l := by
      rw [← a1, ← a2, ← sumN_sub]
      refine sumN_congr fun v _ => ?_
      by_cases q1 : v = lo l
      · by_cases q2 : v = hi l
        · rw [if_pos q1.symm, if_pos q2.symm, if_pos q1, if_pos q2, Int.mul_sub]
        · rw [if_pos q1.symm, if_neg (Ne.symm q2), if_pos q1, if_neg q2]; simp
      · by_cases q2 : v = hi l
        · rw [if_neg (Ne.symm q1), if_pos q2.symm, if_neg q1, if_pos q2]; simp [Int.mul_neg]
        · rw [if_neg (Ne.symm q1), if_neg (Ne.symm q2), if_neg q1, if_neg q2]; simp
    rw [a3]
    grind
  rw [e3, sumN_neg, e1]; rfl
end
end Go.Proofs.YtgmhmlhdiklaaaaGreatDoor.Geo

/- GeoG -/
namespace Go.Proofs.YtgmhmlhdiklaaaaGreatDoor.Geo
open Ring

theorem exists_min (p : Nat → Prop) (g : Nat → Int) : ∀ M : Nat, (∃ d, d < M ∧ p d) → ∃ d, d < M ∧ p d ∧ ∀ e, e < M → p e → g d ≤ g e
  | 0, ⟨d, h, _⟩ => by omega
  | M + 1, ⟨d, h, hp⟩ => by
    by_cases q : ∃ d, d < M ∧ p d
    · obtain ⟨d', h1, h2, h3⟩ := exists_min p g M q
      by_cases q2 : p M ∧ g M < g d'
      · refine ⟨M, by omega, q2.1, fun e he hpe => ?_⟩
        by_cases e1 : e = M
        · subst e1; omega
        · have := h3 e (by omega) hpe; omega
      · refine ⟨d', by omega, h2, fun e he hpe => ?_⟩
        by_cases e1 : e = M
        · subst e1
          rcases ilt (g e) (g d') with g1 | g1
          · exact absurd ⟨hpe, g1⟩ q2
          · exact g1
        · exact h3 e (by omega) hpe
    · have e1 : d = M := by
        rcases Nat.lt_or_ge d M with g1 | g1
        · exact absurd ⟨d, g1, hp⟩ q
        · omega
      subst e1
      refine ⟨d, by omega, hp, fun e he hpe => ?_⟩
      by_cases e1 : e = d
      · subst e1; exact Int.le_refl _
      · exact absurd ⟨e, by omega, hpe⟩ q
theorem bound1 (g : Nat → Int) : ∀ W : Nat, ∃ M : Nat, ∀ i, i < W → -(M : Int) < g i ∧ g i < M
  | 0 => ⟨0, fun i hi => by omega⟩
  | W + 1 => by
    obtain ⟨M, hM⟩ := bound1 g W
    refine ⟨M + (g W).natAbs + 1, fun i hi => ?_⟩
    by_cases e : i = W
    · subst e; omega
    · have := hM i (by omega); omega
theorem bound2 (g : Nat → Nat → Int) (W : Nat) : ∀ m : Nat, ∃ M : Nat, ∀ l, l < m → ∀ i, i < W → -(M : Int) < g l i ∧ g l i < M
  | 0 => ⟨0, fun l hl => by omega⟩
  | m + 1 => by
    obtain ⟨M, hM⟩ := bound2 g W m
    obtain ⟨M2, hM2⟩ := bound1 (g m) W
    refine ⟨M + M2, fun l hl i hi => ?_⟩
    by_cases e : l = m
    · subst e; have := hM2 i hi; omega
    · have := hM l (by omega) i hi; omega

section
variable {n m : Nat} {t s : Nat → Int} {a b : Nat → Nat} {c : Nat → Int} {L : Int} {F : Nat → Int} {nx : Nat → Nat}

/-- The determinant of a dart's ends. -/
def detD (t s : Nat → Int) (a b : Nat → Nat) (d : Nat) : Int := t (fr a b d) * s (fr a b (tw d)) - s (fr a b d) * t (fr a b (tw d))
theorem detD_tw (d : Nat) : detD t s a b (tw d) = - detD t s a b d := by
  unfold detD; rw [tw_tw]; grind

variable (h : Dr n m t s (lo' t a b) (hi' t a b) c L)
include h
/-- The sum of a face's determinants, over strips and heights. -/
theorem area_strips (hC : Circ n m (lo' t a b) (hi' t a b) (sig t a b F)) {T0 : Int} {W M : Nat} (hT : ∀ v, v < n → T0 ≤ t v ∧ t v ≤ T0 + W)
    (hM : ∀ l, l < m → ∀ i, i < W → -(M : Int) < y t s (lo' t a b) (hi' t a b) c l (T0 + i) ∧ y t s (lo' t a b) (hi' t a b) c l (T0 + i) < M) :
    L * sumN (fun d => F d * detD t s a b d) (2 * m) = sumN (fun i => sumN (fun j => N m t s (lo' t a b) (hi' t a b) c (sig t a b F) (T0 + i) (-(M : Int) + j)) (2 * M)) W := by
  have e1 : sumN (fun d => F d * detD t s a b d) (2 * m) = sumN (fun l => sig t a b F l * detD t s a b (rd t a b l)) m := by
    rw [sum_darts (t := t) (a := a) (b := b)]
    refine sumN_congr fun l hl => ?_
    rw [detD_tw]
    unfold sig tau
    grind
  have hp := pot hC (fun l hl => h.nlo l hl) (fun l hl => h.nhi l hl) (fun v => L * (t v * s v))
  have e2 : L * sumN (fun l => sig t a b F l * detD t s a b (rd t a b l)) m =
      - sumN (fun l => sumN (fun i => if t (lo' t a b l) ≤ T0 + i ∧ T0 + i < t (hi' t a b l) then sig t a b F l * y t s (lo' t a b) (hi' t a b) c l (T0 + i) else 0) W) m := by
    rw [← sumN_mul, ← sumN_neg]
    have z : sumN (fun l => L * (sig t a b F l * detD t s a b (rd t a b l))) m = sumN (fun l => L * (sig t a b F l * detD t s a b (rd t a b l))) m - sumN (fun l => sig t a b F l * (L * (t (hi' t a b l) * s (hi' t a b l)) - L * (t (lo' t a b l) * s (lo' t a b l)))) m := by rw [hp]; omega
    rw [z, ← sumN_sub]
    refine sumN_congr fun l hl => ?_
    have hlt := h.lt l hl
    have b1 := hT _ (h.nlo l hl)
    have b2 := hT _ (h.nhi l hl)
    obtain ⟨w, hw⟩ : ∃ w : Nat, t (hi' t a b l) = t (lo' t a b l) + w := ⟨(t (hi' t a b l) - t (lo' t a b l)).toNat, by omega⟩
    have hs := sumN_part (fun x => y t s (lo' t a b) (hi' t a b) c l x) T0 (t (lo' t a b l)) w W b1.1 (by omega)
    have htr := trap (al t s (lo' t a b) (hi' t a b) c l) (ka s (lo' t a b) (hi' t a b) c l) (t (lo' t a b l)) w
    have y1 := Y_lo h hl
    have y2 := Y_hi h hl
    unfold Y at y1 y2
    rw [hw] at y2
    rw [y1, y2] at htr
    have hs2 : sumN (fun i => if t (lo' t a b l) ≤ T0 + i ∧ T0 + i < t (hi' t a b l) then y t s (lo' t a b) (hi' t a b) c l (T0 + i) else 0) W = (w : Int) * (L * s (lo' t a b l) + L * s (hi' t a b l)) := by
      rw [hw, hs]; exact htr
    have hs3 : sumN (fun i => if t (lo' t a b l) ≤ T0 + i ∧ T0 + i < t (hi' t a b l) then sig t a b F l * y t s (lo' t a b) (hi' t a b) c l (T0 + i) else 0) W = sig t a b F l * ((w : Int) * (L * s (lo' t a b l) + L * s (hi' t a b l))) := by
      rw [← hs2, ← sumN_mul]
      refine sumN_congr fun i _ => ?_
      split
      · rfl
      · rw [Int.mul_zero]
    rw [hs3]
    unfold detD
    rw [(rd_fr h hl).1, (rd_fr h hl).2, hw]
    grind
  rw [e1, e2, sumN_comm (fun l i => if t (lo' t a b l) ≤ T0 + i ∧ T0 + i < t (hi' t a b l) then sig t a b F l * y t s (lo' t a b) (hi' t a b) c l (T0 + i) else 0), ← sumN_neg]
  refine sumN_congr fun i hi => ?_
  rw [strip h hC (fun l hl => (hT _ (h.nlo l hl)).1) M (T0 + i) (by omega) (fun l hl _ => by have := hM l hl i hi; omega)]
  omega

/-- The faces' areas: above 0, but for the outer one. -/
theorem area_sign (hb : Bij nx (2 * m)) (hf : ∀ d, d < 2 * m → fr a b (nx d) = fr a b (tw d)) (hF : ∀ d, d < 2 * m → F (nx d) = F d) (hP : ∀ d, d < 2 * m → Prev m t s a b c (fr a b (tw d)) (nx d) (tw d))
    (ring : Nat → List Nat) (hr1 : ∀ v d, d ∈ ring v ↔ d < 2 * m ∧ fr a b d = v) (hr2 : ∀ v, (ring v).Nodup) (hr3 : ∀ d, d < 2 * m → nx d = prd (ring (fr a b (tw d))) (tw d))
    (hw : ∀ i, i < n → Net.lab a b m i = 0) (h01 : ∀ d, d < 2 * m → F d = 0 ∨ F d = 1)
    {o : Nat} (ho : o < 2 * m) (hmin : ∀ e, e < 2 * m → t (fr a b o) ≤ t (fr a b e)) (hfst : ∀ e, e < 2 * m → fr a b e = fr a b o → ¬ Bef t s a b c (fr a b o) e o) :
    (F (tw o) = 1 → sumN (fun d => F d * detD t s a b d) (2 * m) ≤ 0) ∧ (F (tw o) = 0 → (∃ d, d < 2 * m ∧ F d = 1) → 0 < sumN (fun d => F d * detD t s a b d) (2 * m)) := by
  have hC := circ_of h hb hf hF
  have hg := gap_outer h hC ho hmin hfst
  obtain ⟨W0, hW0⟩ := bound1 t n
  have hT : ∀ v, v < n → -(W0 : Int) ≤ t v ∧ t v ≤ -(W0 : Int) + ((2 * W0 : Nat) : Int) := fun v hv => by have := hW0 v hv; omega
  obtain ⟨M, hM⟩ := bound2 (fun l i => y t s (lo' t a b) (hi' t a b) c l (-(W0 : Int) + i)) (2 * W0) m
  have hA := area_strips h hC (W := 2 * W0) hT hM
  have hH : ∀ k, k < m → H m t s (lo' t a b) (hi' t a b) c (sig t a b F) k = F (rd t a b k) - F (tw o) := by
    intro k hk
    have hrk : rd t a b k < 2 * m := by unfold rd; split <;> omega
    have g1 := gap_all h hb hf hF hP ring hr1 hr2 hr3 hw hrk ho
    rw [hg] at g1
    unfold gap hL at g1
    have hrt : rt t a b (rd t a b k) = true := by
      have hlt := h.lt k hk
      unfold rt
      rw [(rd_fr h hk).1, (rd_fr h hk).2]
      simpa using hlt
    rw [if_pos hrt, rd_half] at g1
    omega
  have hN : ∀ (i j : Nat), i < 2 * W0 → N m t s (lo' t a b) (hi' t a b) c (sig t a b F) (-(W0 : Int) + i) (-(M : Int) + j) = 0 ∨ ∃ k, k < m ∧ N m t s (lo' t a b) (hi' t a b) c (sig t a b F) (-(W0 : Int) + i) (-(M : Int) + j) = F (rd t a b k) - F (tw o) := by
    intro i j hi
    have := N_lead (σ := sig t a b F) h (-(W0 : Int) + i) (-(M : Int) - 1) (fun l hl _ => by have := hM l hl i hi; omega) (j + 1)
    rw [show -(M : Int) - 1 + ((j + 1 : Nat) : Int) = -(M : Int) + j by omega] at this
    rcases this with q | ⟨k, k1, k2, k3⟩
    · exact .inl q
    · refine .inr ⟨k, k1, ?_⟩
      rw [k3, H_any h hC k1 k2.1 k2.2, hH k k1]
  have hL := h.hL
  constructor
  · intro h1
    have hle : 0 ≤ sumN (fun i => sumN (fun j => - N m t s (lo' t a b) (hi' t a b) c (sig t a b F) (-(W0 : Int) + i) (-(M : Int) + j)) (2 * M)) (2 * W0) := by
      refine sumN_nonneg fun i hi => sumN_nonneg fun j hj => ?_
      rcases hN i j hi with q | ⟨k, k1, k2⟩
      · omega
      · have := h01 (rd t a b k) (by unfold rd; split <;> omega)
        omega
    have e : sumN (fun i => sumN (fun j => - N m t s (lo' t a b) (hi' t a b) c (sig t a b F) (-(W0 : Int) + i) (-(M : Int) + j)) (2 * M)) (2 * W0) = - sumN (fun i => sumN (fun j => N m t s (lo' t a b) (hi' t a b) c (sig t a b F) (-(W0 : Int) + i) (-(M : Int) + j)) (2 * M)) (2 * W0) := by
      rw [← sumN_neg]
      exact sumN_congr fun i _ => sumN_neg _ _
    rw [e, ← hA] at hle
    rcases ilt 0 (sumN (fun d => F d * detD t s a b d) (2 * m)) with q | q
    · have := Int.mul_pos hL q; omega
    · exact q
  · intro h0 hex
    obtain ⟨d, d1, d2, d3⟩ := exists_min (fun d => F d = 1) (fun d => t (fr a b d)) (2 * m) hex
    have hd : d = rd t a b (d / 2) := by
      rcases dart_cases h d1 with ⟨e, _, _⟩ | ⟨e, hr, _⟩
      · exact e
      · exfalso
        have q := d3 (nx d) (hb.lt d d1) (by rw [hF d d1, d2])
        rw [hf d d1] at q
        have hlt := h.lt (d / 2) (by omega)
        have hrf := rd_fr h (k := d / 2) (by omega)
        rw [← hrf.1, ← hrf.2, ← e] at hlt
        have e2 : rd t a b (d / 2) = tw d := by rw [e, tw_tw, ← e]
        rw [e2] at hlt
        omega
    have hk : d / 2 < m := by omega
    have hHk : H m t s (lo' t a b) (hi' t a b) c (sig t a b F) (d / 2) = 1 := by
      rw [hH _ hk, ← hd, d2, h0]; rfl
    have b1 := hT _ (h.nlo _ hk)
    have b2 := hT _ (h.nhi _ hk)
    have hlt := h.lt _ hk
    obtain ⟨i, hi⟩ : ∃ i : Nat, t (lo' t a b (d / 2)) = -(W0 : Int) + i := ⟨(t (lo' t a b (d / 2)) + W0).toNat, by omega⟩
    have hi2 : i < 2 * W0 := by omega
    have hMk := hM _ hk i hi2
    obtain ⟨j, hj⟩ : ∃ j : Nat, y t s (lo' t a b) (hi' t a b) c (d / 2) (-(W0 : Int) + i) = -(M : Int) + j := ⟨(y t s (lo' t a b) (hi' t a b) c (d / 2) (-(W0 : Int) + i) + M).toNat, by omega⟩
    have hN1 : N m t s (lo' t a b) (hi' t a b) c (sig t a b F) (-(W0 : Int) + i) (-(M : Int) + j) = 1 := by
      rw [← hj, ← hHk]
      unfold H
      rw [hi]
    have hnn : ∀ i' j', i' < 2 * W0 → 0 ≤ N m t s (lo' t a b) (hi' t a b) c (sig t a b F) (-(W0 : Int) + ((i' : Nat) : Int)) (-(M : Int) + ((j' : Nat) : Int)) := by
      intro i' j' hi'
      rcases hN i' j' hi' with q | ⟨k, k1, k2⟩
      · omega
      · have := h01 (rd t a b k) (by unfold rd; split <;> omega)
        omega
    have hpos : 0 < sumN (fun i => sumN (fun j => N m t s (lo' t a b) (hi' t a b) c (sig t a b F) (-(W0 : Int) + i) (-(M : Int) + j)) (2 * M)) (2 * W0) := by
      refine sumN_pos i hi2 (fun i' hi' => sumN_nonneg fun j' _ => hnn i' j' hi') ?_
      refine sumN_pos j (by omega) (fun j' _ => hnn i j' hi2) ?_
      rw [hN1]; decide
    rw [← hA] at hpos
    exact (mul_pos_iff hL).1 hpos
end
end Go.Proofs.YtgmhmlhdiklaaaaGreatDoor.Geo

/- Sorted -/
namespace Go.Proofs.YtgmhmlhdiklaaaaGreatDoor.Ring

/-- lt is a strict total order on the elements that p names. -/
structure Tot (lt : Nat → Nat → Bool) (p : Nat → Prop) : Prop where
  irr : ∀ x, p x → lt x x = false
  trans : ∀ x y z, p x → p y → p z → lt x y = true → lt y z = true → lt x z = true
  total : ∀ x y, p x → p y → x ≠ y → lt x y = true ∨ lt y x = true
def Sd (lt : Nat → Nat → Bool) (l : List Nat) : Prop := ∀ i j, i < j → j < l.length → lt (l.getD i 0) (l.getD j 0) = true
section
variable {lt : Nat → Nat → Bool} {p : Nat → Prop}
theorem getD_mem {l : List Nat} {i : Nat} (h : i < l.length) : l.getD i 0 ∈ l := by
  rw [List.getD_eq_getElem?_getD, List.getElem?_eq_getElem h]; exact List.getElem_mem h
theorem posOf_above {f : Nat → Bool} {l : List Nat} : ∀ j i, posOf f l j ≤ i → i < j → f (l.getD i 0) = true
  | 0, i, _, h => by omega
  | j + 1, i, h1, h2 => by
    cases e : f (l.getD j 0)
    · rw [posOf_no e] at h1; omega
    · rw [posOf_yes e] at h1
      by_cases q : i = j
      · subst q; exact e
      · exact posOf_above j i h1 (by omega)
theorem posOf_below {f : Nat → Bool} {l : List Nat} : ∀ j, 0 < posOf f l j → f (l.getD (posOf f l j - 1) 0) = false
  | 0, h => absurd h (by simp [posOf])
  | j + 1, h => by
    cases e : f (l.getD j 0)
    · rw [posOf_no e]; exact e
    · rw [posOf_yes e] at h ⊢; exact posOf_below j h
theorem ins1_sd (T : Tot lt p) {l : List Nat} (hl : Sd lt l) (hp : ∀ y ∈ l, p y) {x : Nat} (hx : p x) (hn : ¬ x ∈ l) : Sd lt (ins1 lt l x) := by
  have hJ := posOf_le (lt x) l l.length
  have hab := posOf_above (f := lt x) (l := l) l.length
  have hbe := posOf_below (f := lt x) (l := l) l.length
  unfold ins1
  generalize posOf (lt x) l l.length = J at hJ hab hbe
  have pe : ∀ i, i < l.length → p (l.getD i 0) := fun i hi => hp _ (getD_mem hi)
  -- all below J go before x
  have bel : ∀ i, i < J → lt (l.getD i 0) x = true := by
    intro i hi
    have h0 := hbe (by omega)
    have h1 : lt (l.getD (J - 1) 0) x = true := by
      rcases T.total x (l.getD (J - 1) 0) hx (pe _ (by omega)) (by rintro e; exact hn (e ▸ getD_mem (by omega))) with q | q
      · rw [h0] at q; cases q
      · exact q
    by_cases e : i = J - 1
    · subst e; exact h1
    · exact T.trans _ _ _ (pe i (by omega)) (pe _ (by omega)) hx (hl i (J - 1) (by omega) (by omega)) h1
  intro i j hij hj
  rw [insAt_len] at hj
  rw [insAt_get hJ, insAt_get hJ]
  by_cases i1 : i < J
  · rw [if_pos i1]
    by_cases j1 : j < J
    · rw [if_pos j1]; exact hl i j hij (by omega)
    · rw [if_neg j1]
      by_cases j2 : j = J
      · rw [if_pos j2]; exact bel i i1
      · rw [if_neg j2]; exact hl i (j - 1) (by omega) (by omega)
  · rw [if_neg i1, if_neg (by omega : ¬ j < J), if_neg (by omega : ¬ j = J)]
    by_cases i2 : i = J
    · rw [if_pos i2]; exact hab (j - 1) (by omega) (by omega)
    · rw [if_neg i2]; exact hl (i - 1) (j - 1) (by omega) (by omega)
theorem srt_sd (T : Tot lt p) : ∀ (l acc : List Nat), Sd lt acc → (∀ y ∈ acc, p y) → (∀ y ∈ l, p y) → (acc ++ l).Nodup → Sd lt (l.foldl (ins1 lt) acc)
  | [], acc, h, _, _, _ => h
  | x :: l, acc, h, h1, h2, h3 => by
    have hx : p x := h2 x (by simp)
    have hn : ¬ x ∈ acc := by
      rw [List.nodup_append] at h3
      intro q
      exact h3.2.2 x q x (by simp) rfl
    have hperm : (ins1 lt acc x).Perm (x :: acc) := insAt_perm acc _ x
    refine srt_sd T l (ins1 lt acc x) (ins1_sd T h h1 hx hn) (fun y hy => ?_) (fun y hy => h2 y (by simp [hy])) ?_
    · rcases List.mem_cons.1 (hperm.mem_iff.1 hy) with q | q
      · rw [q]; exact hx
      · exact h1 y q
    · have h4 : (ins1 lt acc x ++ l).Perm (acc ++ x :: l) := (List.Perm.append_right l hperm).trans List.perm_middle.symm
      exact h4.nodup_iff.2 h3
theorem sorted (T : Tot lt p) {l : List Nat} (hp : ∀ y ∈ l, p y) (hn : l.Nodup) : Sd lt (srt lt l) :=
  srt_sd T l [] (fun i j _ h => absurd h (by simp)) (by simp) hp (by simpa using hn)
theorem sd_lt (T : Tot lt p) {l : List Nat} (hl : Sd lt l) (hp : ∀ y ∈ l, p y) {i j : Nat} (hi : i < l.length) (hj : j < l.length) (h : lt (l.getD i 0) (l.getD j 0) = true) : i < j := by
  have p1 := hp _ (getD_mem hi)
  have p2 := hp _ (getD_mem hj)
  rcases Nat.lt_trichotomy i j with g | g | g
  · exact g
  · subst g
    have := T.irr _ p1
    rw [this] at h; cases h
  · have h2 := T.trans _ _ _ p1 p2 p1 h (hl j i g hi)
    rw [T.irr _ p1] at h2; cases h2
/-- In the ring of a sorted list the one before x is x's predecessor; or x is the first and that is the last. -/
theorem prd_prev (T : Tot lt p) {l : List Nat} (hl : Sd lt l) (hp : ∀ y ∈ l, p y) {x : Nat} (hx : x ∈ l) :
    (lt (prd l x) x = true ∧ ∀ e ∈ l, ¬ (lt (prd l x) e = true ∧ lt e x = true)) ∨ ((∀ e ∈ l, lt e x = false) ∧ ∀ e ∈ l, lt (prd l x) e = false) := by
  have hi := idx_lt hx
  have hg := idx_get hx
  generalize hq : idx l x = i at hi hg
  have hprd : prd l x = l.getD ((i + l.length - 1) % l.length) 0 := by unfold prd; rw [hq]
  by_cases i0 : i = 0
  · right
    subst i0
    rw [Nat.zero_add, Nat.mod_eq_of_lt (by omega)] at hprd
    constructor
    · intro e he
      cases q : lt e x
      · rfl
      · have h1 := idx_lt he
        rw [← hg, ← idx_get he] at q
        have := sd_lt T hl hp h1 hi q; omega
    · intro e he
      cases q : lt (prd l x) e
      · rfl
      · have h1 := idx_lt he
        rw [hprd, ← idx_get he] at q
        have := sd_lt T hl hp (by omega) h1 q; omega
  · left
    rw [show i + l.length - 1 = i - 1 + l.length by omega, Nat.add_mod_right, Nat.mod_eq_of_lt (by omega)] at hprd
    constructor
    · rw [hprd, ← hg]; exact hl (i - 1) i (by omega) hi
    · rintro e he ⟨q1, q2⟩
      have h1 := idx_lt he
      rw [hprd, ← idx_get he] at q1
      rw [← hg, ← idx_get he] at q2
      have a1 := sd_lt T hl hp (by omega) h1 q1
      have a2 := sd_lt T hl hp h1 hi q2
      omega
end
end Go.Proofs.YtgmhmlhdiklaaaaGreatDoor.Ring

/- WinGeo -/
namespace Go.Proofs.YtgmhmlhdiklaaaaGreatDoor
open Go.RowKit Ring
set_option linter.unusedVariables false

def fct : Nat → Nat
  | 0 => 1
  | k + 1 => (k + 1) * fct k
theorem fct_pos : ∀ k, 0 < fct k
  | 0 => Nat.one_pos
  | k + 1 => Nat.mul_pos (Nat.succ_pos k) (fct_pos k)
theorem fct_dvd {d : Nat} (h1 : 1 ≤ d) : ∀ k, d ≤ k → d ∣ fct k
  | 0, h => by omega
  | k + 1, h => by
    show d ∣ (k + 1) * fct k
    by_cases e : d = k + 1
    · rw [e]; exact Nat.dvd_mul_right _ _
    · exact Nat.dvd_trans (fct_dvd h1 k (by omega)) (Nat.dvd_mul_left _ _)
theorem big_exists : ∃ Q : Int, 0 < Q ∧ ∀ d : Int, 1 ≤ d → d ≤ 1000 → d ∣ Q := by
  refine ⟨(fct 1000 : Nat), by have := fct_pos 1000; omega, fun d h1 h2 => ?_⟩
  obtain ⟨e, rfl⟩ : ∃ e : Nat, d = e := ⟨d.toNat, by omega⟩
  exact Int.natCast_dvd_natCast.2 (fct_dvd (by omega) 1000 (by omega))

def tt (P : Nat → Nat → Int) (v : Nat) : Int := 21 * P v 1 + P v 0
def ss (P : Nat → Nat → Int) (v : Nat) : Int := - P v 0
abbrev wlo (P L : Nat → Nat → Int) : Nat → Nat := Geo.lo' (tt P) (fromN L) (toN L)
abbrev whi (P L : Nat → Nat → Int) : Nat → Nat := Geo.hi' (tt P) (fromN L) (toN L)
def cc (Q : Int) (P L : Nat → Nat → Int) (k : Nat) : Int := Q / (tt P (whi P L k) - tt P (wlo P L k))
def trnP (P : Nat → Nat → Int) (a b z : Nat) : Int := trn (P a 0) (P a 1) (P b 0) (P b 1) (P z 0) (P z 1)
theorem D_trn (P : Nat → Nat → Int) (a b z : Nat) : Geo.D (tt P) (ss P) a b z = 21 * trnP P a b z := by
  unfold Geo.D tt ss trnP trn; grind
theorem trnP_swap (P : Nat → Nat → Int) (a b z : Nat) : trnP P b a z = - trnP P a b z := by
  unfold trnP trn; grind
theorem fr_org (L : Nat → Nat → Int) (d : Nat) : Geo.fr (fromN L) (toN L) d = orgN L d := rfl
theorem gtw (d : Nat) : Geo.tw d = tw d := rfl

/-- Of three points on a line the one between by one coordinate is so by both. -/
theorem mid_box {dx dy ex ey : Int} (h0 : dx * ey - dy * ex = 0) (h1 : 0 < 21 * ey + ex) (h2 : 21 * ey + ex < 21 * dy + dx) (b1 : -20 ≤ ex ∧ ex ≤ 20) (b2 : -20 ≤ dx - ex ∧ dx - ex ≤ 20) :
    (0 ≤ ey ∧ ey ≤ dy) ∧ ((0 ≤ ex ∧ ex ≤ dx) ∨ (dx ≤ ex ∧ ex ≤ 0)) := by
  have e1 : 0 ≤ ey := by omega
  have e2 : ey ≤ dy := by omega
  refine ⟨⟨e1, e2⟩, ?_⟩
  rcases Int.lt_or_eq_of_le (show 0 ≤ dy by omega) with g | g
  · have key : dy * (dx - ex) = dx * (dy - ey) := by grind
    rcases Geo.ilt dx 0 with q | q
    · right
      have a1 : dx * ey ≤ 0 := Int.mul_nonpos_of_nonpos_of_nonneg (by omega) e1
      have a2 : dx * (dy - ey) ≤ 0 := Int.mul_nonpos_of_nonpos_of_nonneg (by omega) (by omega)
      rw [← key] at a2
      constructor
      · rcases Geo.ilt ex dx with r | r
        · have := Int.mul_pos g (show 0 < dx - ex by omega); omega
        · exact r
      · rcases Geo.ilt 0 ex with r | r
        · have := Int.mul_pos g r; omega
        · exact r
    · left
      have a1 : 0 ≤ dx * ey := Int.mul_nonneg q e1
      have a2 : 0 ≤ dx * (dy - ey) := Int.mul_nonneg q (by omega)
      rw [← key] at a2
      constructor
      · rcases Geo.ilt ex 0 with r | r
        · have := Int.mul_neg_of_pos_of_neg g r; omega
        · exact r
      · rcases Geo.ilt dx ex with r | r
        · have := Int.mul_neg_of_pos_of_neg g (show dx - ex < 0 by omega); omega
        · exact r
  · have : ey = 0 := by omega
    omega
/-- Two slopes, over a common multiple of the widths. -/
theorem slope {Q c1 c2 T1 T2 S1 S2 : Int} (hQ : 0 < Q) (h1 : 0 < T1) (h2 : 0 < T2) (e1 : c1 * T1 = Q) (e2 : c2 * T2 = Q) : c1 * S1 < c2 * S2 ↔ 0 < S2 * T1 - S1 * T2 := by
  have hT : 0 < T1 * T2 := Int.mul_pos h1 h2
  have k1 := Geo.mul_pos_iff (b := c2 * S2 - c1 * S1) hT
  have k2 := Geo.mul_pos_iff (b := S2 * T1 - S1 * T2) hQ
  have e : T1 * T2 * (c2 * S2 - c1 * S1) = Q * (S2 * T1 - S1 * T2) := by
    have a1 : T1 * T2 * (c2 * S2) = (c2 * T2) * (S2 * T1) := by grind
    have a2 : T1 * T2 * (c1 * S1) = (c1 * T1) * (S1 * T2) := by grind
    rw [Int.mul_sub, a1, a2, e1, e2, Int.mul_sub]
  rw [e] at k1
  omega

section
variable {n m : Nat} {P L : Nat → Nat → Int}
theorem win_ends (h : winB n P m L = true) : Ends n m L := fun k hk => winB_ends h hk
theorem win_rng (h : winB n P m L = true) {v : Nat} (hv : v < n) : 0 ≤ P v 0 ∧ P v 0 ≤ 20 ∧ 0 ≤ P v 1 ∧ P v 1 ≤ 20 := nodeB_rng ((winB_get h).2.1.1 v hv)
theorem tt_inj (h : winB n P m L = true) {u v : Nat} (hu : u < n) (hv : v < n) (e : tt P u = tt P v) : u = v := by
  have h1 := win_rng h hu
  have h2 := win_rng h hv
  by_cases q : u = v
  · exact q
  · have h3 := (winB_get h).2.1.ne hu hv q
    unfold ptEq at h3
    unfold tt at e
    have := of_decide_eq_false h3
    omega
theorem lohi (h : winB n P m L = true) {k : Nat} (hk : k < m) : ((wlo P L k = fromN L k ∧ whi P L k = toN L k) ∨ (wlo P L k = toN L k ∧ whi P L k = fromN L k)) ∧ tt P (wlo P L k) < tt P (whi P L k) := by
  have he := win_ends h k hk
  have hne : tt P (fromN L k) ≠ tt P (toN L k) := fun e => by have := tt_inj h (by omega) he.2.2.2 e; omega
  unfold wlo whi Geo.lo' Geo.hi'
  by_cases g : tt P (fromN L k) < tt P (toN L k)
  · simp only [if_pos g]; exact ⟨.inl ⟨trivial, trivial⟩, g⟩
  · simp only [if_neg g]; exact ⟨.inr ⟨trivial, trivial⟩, by omega⟩
theorem D_lohi (h : winB n P m L = true) {k : Nat} (hk : k < m) : ∃ e : Int, (e = 1 ∨ e = -1) ∧ ∀ z, Geo.D (tt P) (ss P) (wlo P L k) (whi P L k) z = 21 * (e * trnP P (fromN L k) (toN L k) z) := by
  rcases (lohi h hk).1 with ⟨e1, e2⟩ | ⟨e1, e2⟩
  · exact ⟨1, .inl rfl, fun z => by rw [e1, e2, D_trn, Int.one_mul]⟩
  · exact ⟨-1, .inr rfl, fun z => by rw [e1, e2, D_trn, trnP_swap]; omega⟩
theorem win_cross (h : winB n P m L = true) {k l : Nat} (hk : k < m) (hl : l < m) (hne : k ≠ l) :
    ¬ (fromN L k = fromN L l ∧ toN L k = toN L l) ∧ ¬ (trnP P (fromN L k) (toN L k) (fromN L l) * trnP P (fromN L k) (toN L k) (toN L l) < 0 ∧ trnP P (fromN L l) (toN L l) (fromN L k) * trnP P (fromN L l) (toN L l) (toN L k) < 0) := by
  have key : ∀ k l, k < m → l < k → ¬ (fromN L k = fromN L l ∧ toN L k = toN L l) ∧ ¬ (trnP P (fromN L k) (toN L k) (fromN L l) * trnP P (fromN L k) (toN L k) (toN L l) < 0 ∧ trnP P (fromN L l) (toN L l) (fromN L k) * trnP P (fromN L l) (toN L l) (toN L k) < 0) := by
    intro k l hk hlk
    have h1 := (winB_get h).2.2 k hk
    unfold leadAt at h1
    rw [Bool.and_eq_true, Bool.and_eq_true] at h1
    have h2 := allB_get h1.1.2 hlk
    have h3 : crossAt P L k l = false := by simpa using h2
    unfold crossAt crossB at h3
    rw [Bool.or_eq_false_iff, Bool.or_eq_false_iff] at h3
    refine ⟨of_decide_eq_false h3.1.1, ?_⟩
    have h4 := h3.2
    unfold apart4 at h4
    rw [Bool.and_eq_false_iff] at h4
    rintro ⟨q1, q2⟩
    rcases h4 with r | r
    · exact of_decide_eq_false r q1
    · exact of_decide_eq_false r q2
  rcases Nat.lt_or_gt_of_ne hne with g | g
  · have := key l k hl g
    exact ⟨fun q => this.1 ⟨q.1.symm, q.2.symm⟩, fun q => this.2 ⟨q.2, q.1⟩⟩
  · exact key k l hk g
theorem dr_win (h : winB n P m L = true) {Q : Int} (hQ : 0 < Q) (hdiv : ∀ d : Int, 1 ≤ d → d ≤ 1000 → d ∣ Q) : Geo.Dr n m (tt P) (ss P) (wlo P L) (whi P L) (cc Q P L) Q := by
  have hlt : ∀ k, k < m → wlo P L k < n ∧ whi P L k < n := by
    intro k hk
    have he := win_ends h k hk
    rcases (lohi h hk).1 with ⟨e1, e2⟩ | ⟨e1, e2⟩ <;> rw [e1, e2] <;> omega
  refine ⟨fun k hk => (hlt k hk).1, fun k hk => (hlt k hk).2, fun k hk => (lohi h hk).2, fun u v hu hv e => tt_inj h hu hv e, ?_, ?_, ?_, ?_, hQ⟩
  · intro k v hk hv n1 n2 t1 t2 h0
    have he := win_ends h k hk
    have hin := hlt k hk
    have r1 := win_rng h hin.1
    have r2 := win_rng h hin.2
    have r3 := win_rng h hv
    have e0 : trnP P (wlo P L k) (whi P L k) v = 0 := by rw [D_trn] at h0; omega
    have hb := mid_box (dx := P (whi P L k) 0 - P (wlo P L k) 0) (dy := P (whi P L k) 1 - P (wlo P L k) 1) (ex := P v 0 - P (wlo P L k) 0) (ey := P v 1 - P (wlo P L k) 1) (by unfold trnP trn at e0; exact e0) (by unfold tt at t1; omega) (by unfold tt at t2; omega) (by omega) (by omega)
    have hon : onAt P L k v = false := by
      have h1 := (winB_get h).2.2 k hk
      unfold leadAt at h1
      rw [Bool.and_eq_true, Bool.and_eq_true] at h1
      have h2 := allB_get h1.2 hv
      simpa using h2
    have hN := (winB_get h).2.1
    have hcomb : v ≠ fromN L k ∧ v ≠ toN L k ∧ trnP P (fromN L k) (toN L k) v = 0 ∧ (min (P (fromN L k) 0) (P (toN L k) 0) ≤ P v 0 ∧ P v 0 ≤ max (P (fromN L k) 0) (P (toN L k) 0)) ∧ (min (P (fromN L k) 1) (P (toN L k) 1) ≤ P v 1 ∧ P v 1 ≤ max (P (fromN L k) 1) (P (toN L k) 1)) := by
      rcases (lohi h hk).1 with ⟨e1, e2⟩ | ⟨e1, e2⟩
      · rw [e1] at hb n1 e0; rw [e2] at hb n2 e0
        exact ⟨n1, n2, e0, by omega, by omega⟩
      · rw [e1] at hb n1 e0; rw [e2] at hb n2 e0
        exact ⟨n2, n1, by rw [trnP_swap] at e0; omega, by omega, by omega⟩
    obtain ⟨c1, c2, c3, c4, c5⟩ := hcomb
    have hbt : betwB (P (fromN L k) 0) (P (fromN L k) 1) (P (toN L k) 0) (P (toN L k) 1) (P v 0) (P v 1) = true := by
      unfold betwB
      rw [hN.1 _ (show fromN L k < n by omega), hN.1 _ he.2.2.2, hN.1 _ hv, hN.ne (show fromN L k < n by omega) he.2.2.2 (by omega), hN.ne (show fromN L k < n by omega) hv (Ne.symm c1), hN.ne he.2.2.2 hv (Ne.symm c2)]
      have c3' : trn (P (fromN L k) 0) (P (fromN L k) 1) (P (toN L k) 0) (P (toN L k) 1) (P v 0) (P v 1) = 0 := c3
      rw [c3']
      simp [inB, c4, c5]
    unfold onAt at hon
    rw [hbt] at hon
    simp [c1, c2] at hon
  · rintro k l hk hl hne ⟨q1, q2⟩
    have hc := (win_cross h hk hl hne).2
    obtain ⟨e, he, hD⟩ := D_lohi h hk
    obtain ⟨f, hf, hE⟩ := D_lohi h hl
    rw [hD, hD] at q1
    rw [hE, hE] at q2
    refine hc ?_
    have s1 : 21 * (e * trnP P (fromN L k) (toN L k) (wlo P L l)) * (21 * (e * trnP P (fromN L k) (toN L k) (whi P L l))) = 441 * (trnP P (fromN L k) (toN L k) (wlo P L l) * trnP P (fromN L k) (toN L k) (whi P L l)) := by
      rcases he with rfl | rfl <;> grind
    have s2 : 21 * (f * trnP P (fromN L l) (toN L l) (wlo P L k)) * (21 * (f * trnP P (fromN L l) (toN L l) (whi P L k))) = 441 * (trnP P (fromN L l) (toN L l) (wlo P L k) * trnP P (fromN L l) (toN L l) (whi P L k)) := by
      rcases hf with rfl | rfl <;> grind
    rw [s1] at q1
    rw [s2] at q2
    rcases (lohi h hl).1 with ⟨e1, e2⟩ | ⟨e1, e2⟩ <;> rw [e1, e2] at q1 <;> rcases (lohi h hk).1 with ⟨e3, e4⟩ | ⟨e3, e4⟩ <;> rw [e3, e4] at q2
    · exact ⟨by omega, by omega⟩
    · rw [Int.mul_comm (trnP P (fromN L l) (toN L l) (toN L k))] at q2
      exact ⟨by omega, by omega⟩
    · rw [Int.mul_comm (trnP P (fromN L k) (toN L k) (toN L l))] at q1
      exact ⟨by omega, by omega⟩
    · rw [Int.mul_comm (trnP P (fromN L k) (toN L k) (toN L l))] at q1
      rw [Int.mul_comm (trnP P (fromN L l) (toN L l) (toN L k))] at q2
      exact ⟨by omega, by omega⟩
  · intro k l hk hl e1 e2
    by_cases q : k = l
    · exact q
    · exfalso
      have hk' := win_ends h k hk
      have hl' := win_ends h l hl
      refine (win_cross h hk hl q).1 ?_
      rcases (lohi h hk).1 with ⟨a1, a2⟩ | ⟨a1, a2⟩ <;> rcases (lohi h hl).1 with ⟨b1, b2⟩ | ⟨b1, b2⟩ <;> rw [a1, b1] at e1 <;> rw [a2, b2] at e2 <;> omega
  · intro k hk
    have r1 := win_rng h (hlt k hk).1
    have r2 := win_rng h (hlt k hk).2
    have := (lohi h hk).2
    unfold cc
    refine Int.ediv_mul_cancel (hdiv _ (by omega) ?_)
    unfold tt
    omega

variable {Q : Int}
/-- The order around a node, as the program has it, is the drawing's. -/
theorem ltD_bef (h : winB n P m L = true) (hQ : 0 < Q) (hdiv : ∀ d : Int, 1 ≤ d → d ≤ 1000 → d ∣ Q) {v d e : Nat} (hd : d < 2 * m) (he : e < 2 * m) (dv : orgN L d = v) (ev : orgN L e = v) :
    ltD P L v d e = true ↔ Geo.Bef (tt P) (ss P) (fromN L) (toN L) (cc Q P L) v d e := by
  have hD := dr_win h hQ hdiv
  have hE := win_ends h
  have hv : v < n := by rw [← dv]; exact orgN_lt hE hd
  have rv := win_rng h hv
  have rd := win_rng h (endN_lt hE hd)
  have re := win_rng h (endN_lt hE he)
  have hp : ∀ x, x < 2 * m → orgN L x = v → (Geo.rt (tt P) (fromN L) (toN L) x = true ↔ hpV (P v 0) (P v 1) (P (endN L x) 0) (P (endN L x) 1) = 0) := by
    intro x hx xv
    have rx := win_rng h (endN_lt hE hx)
    unfold Geo.rt
    rw [fr_org, gtw, xv]
    show decide (tt P v < tt P (endN L x)) = true ↔ _
    rw [decide_eq_true_iff]
    unfold hpV tt
    constructor
    · intro q; rw [if_pos (by omega)]
    · intro q
      by_cases g : P v 1 < P (endN L x) 1 ∨ P (endN L x) 1 = P v 1 ∧ P v 0 < P (endN L x) 0
      · omega
      · rw [if_neg g] at q; omega
  have hb := hpV_bd (P v 0) (P v 1) (P (endN L d) 0) (P (endN L d) 1)
  have hb2 := hpV_bd (P v 0) (P v 1) (P (endN L e) 0) (P (endN L e) 1)
  have hpd := hp d hd dv
  have hpe := hp e he ev
  have hDv : Geo.D (tt P) (ss P) v (endN L d) (endN L e) = 21 * trnP P v (endN L d) (endN L e) := D_trn _ _ _ _
  unfold ltD befV
  rw [Bool.or_eq_true, Bool.and_eq_true, decide_eq_true_iff, decide_eq_true_iff, decide_eq_true_iff]
  have kd : d / 2 < m := by omega
  have ke : e / 2 < m := by omega
  have cd := hD.hc _ kd
  have ce := hD.hc _ ke
  have ld := hD.lt _ kd
  have le := hD.lt _ ke
  have fd := Geo.rd_fr hD kd
  have fe := Geo.rd_fr hD ke
  unfold Geo.Bef
  show (_ ∨ _ ∧ 0 < trnP P v (endN L d) (endN L e)) ↔ _
  have sl : (Geo.rt (tt P) (fromN L) (toN L) d = true → Geo.rt (tt P) (fromN L) (toN L) e = true → (Geo.y (tt P) (ss P) (wlo P L) (whi P L) (cc Q P L) (d / 2) (tt P v) < Geo.y (tt P) (ss P) (wlo P L) (whi P L) (cc Q P L) (e / 2) (tt P v) ↔ 0 < trnP P v (endN L d) (endN L e))) ∧
      (Geo.rt (tt P) (fromN L) (toN L) d = false → Geo.rt (tt P) (fromN L) (toN L) e = false → (Geo.y (tt P) (ss P) (wlo P L) (whi P L) (cc Q P L) (e / 2) (tt P v - 1) < Geo.y (tt P) (ss P) (wlo P L) (whi P L) (cc Q P L) (d / 2) (tt P v - 1) ↔ 0 < trnP P v (endN L d) (endN L e))) := by
    constructor
    · intro q1 q2
      rcases Geo.dart_cases hD hd with ⟨x1, x2, x3⟩ | ⟨x1, x2, x3⟩
      · rcases Geo.dart_cases hD he with ⟨y1, y2, y3⟩ | ⟨y1, y2, y3⟩
        · rw [← x1] at fd
          rw [← y1] at fe
          have a1 : wlo P L (d / 2) = v := by rw [← dv]; exact fd.1.symm
          have a2 : whi P L (d / 2) = endN L d := fd.2.symm
          have a3 : wlo P L (e / 2) = v := by rw [← ev]; exact fe.1.symm
          have a4 : whi P L (e / 2) = endN L e := fe.2.symm
          have z1 := Geo.Y_lo hD kd
          have z2 := Geo.Y_lo hD ke
          rw [a1] at z1 ld cd
          rw [a2] at ld cd
          rw [a3] at z2 le ce
          rw [a4] at le ce
          have sp := slope (S1 := ss P (endN L d) - ss P v) (S2 := ss P (endN L e) - ss P v) hQ (by omega) (by omega) cd ce
          have z3 : Geo.y (tt P) (ss P) (wlo P L) (whi P L) (cc Q P L) (d / 2) (tt P v) = 2 * (Q * ss P v) + cc Q P L (d / 2) * (ss P (endN L d) - ss P v) := by
            unfold Geo.y; rw [z1]
            have : Geo.Y (tt P) (ss P) (wlo P L) (whi P L) (cc Q P L) (d / 2) (tt P v + 1) = Geo.Y (tt P) (ss P) (wlo P L) (whi P L) (cc Q P L) (d / 2) (tt P v) + Geo.ka (ss P) (wlo P L) (whi P L) (cc Q P L) (d / 2) := by unfold Geo.Y; rw [Int.mul_add]; omega
            rw [this, z1]; unfold Geo.ka; rw [a1, a2]; omega
          have z4 : Geo.y (tt P) (ss P) (wlo P L) (whi P L) (cc Q P L) (e / 2) (tt P v) = 2 * (Q * ss P v) + cc Q P L (e / 2) * (ss P (endN L e) - ss P v) := by
            unfold Geo.y; rw [z2]
            have : Geo.Y (tt P) (ss P) (wlo P L) (whi P L) (cc Q P L) (e / 2) (tt P v + 1) = Geo.Y (tt P) (ss P) (wlo P L) (whi P L) (cc Q P L) (e / 2) (tt P v) + Geo.ka (ss P) (wlo P L) (whi P L) (cc Q P L) (e / 2) := by unfold Geo.Y; rw [Int.mul_add]; omega
            rw [this, z2]; unfold Geo.ka; rw [a3, a4]; omega
          have z5 : (ss P (endN L e) - ss P v) * (tt P (endN L d) - tt P v) - (ss P (endN L d) - ss P v) * (tt P (endN L e) - tt P v) = 21 * trnP P v (endN L d) (endN L e) := by rw [← hDv]; unfold Geo.D; grind
          rw [z5] at sp
          rw [z3, z4]
          omega
        · rw [y2] at q2; cases q2
      · rw [x2] at q1; cases q1
    · intro q1 q2
      rcases Geo.dart_cases hD hd with ⟨x1, x2, x3⟩ | ⟨x1, x2, x3⟩
      · rw [x2] at q1; cases q1
      · rcases Geo.dart_cases hD he with ⟨y1, y2, y3⟩ | ⟨y1, y2, y3⟩
        · rw [y2] at q2; cases q2
        · have x4 : Geo.rd (tt P) (fromN L) (toN L) (d / 2) = tw d := by
            have := congrArg Geo.tw x1; rw [Geo.tw_tw] at this; exact this.symm
          have y4 : Geo.rd (tt P) (fromN L) (toN L) (e / 2) = tw e := by
            have := congrArg Geo.tw y1; rw [Geo.tw_tw] at this; exact this.symm
          rw [x4] at fd
          rw [y4] at fe
          have a1 : whi P L (d / 2) = v := by rw [← dv]; have := fd.2; rw [gtw, tw_tw] at this; exact this.symm
          have a2 : wlo P L (d / 2) = endN L d := fd.1.symm
          have a3 : whi P L (e / 2) = v := by rw [← ev]; have := fe.2; rw [gtw, tw_tw] at this; exact this.symm
          have a4 : wlo P L (e / 2) = endN L e := fe.1.symm
          have z1 := Geo.Y_hi hD kd
          have z2 := Geo.Y_hi hD ke
          rw [a1] at z1 ld cd
          rw [a2] at ld cd
          rw [a3] at z2 le ce
          rw [a4] at le ce
          have sp := slope (S1 := ss P v - ss P (endN L d)) (S2 := ss P v - ss P (endN L e)) hQ (by omega) (by omega) cd ce
          have z3 : Geo.y (tt P) (ss P) (wlo P L) (whi P L) (cc Q P L) (d / 2) (tt P v - 1) = 2 * (Q * ss P v) - cc Q P L (d / 2) * (ss P v - ss P (endN L d)) := by
            unfold Geo.y
            have : Geo.Y (tt P) (ss P) (wlo P L) (whi P L) (cc Q P L) (d / 2) (tt P v - 1) = Geo.Y (tt P) (ss P) (wlo P L) (whi P L) (cc Q P L) (d / 2) (tt P v) - Geo.ka (ss P) (wlo P L) (whi P L) (cc Q P L) (d / 2) := by unfold Geo.Y; rw [Int.mul_sub]; omega
            rw [this, Int.sub_add_cancel, z1]; unfold Geo.ka; rw [a1, a2]; omega
          have z4 : Geo.y (tt P) (ss P) (wlo P L) (whi P L) (cc Q P L) (e / 2) (tt P v - 1) = 2 * (Q * ss P v) - cc Q P L (e / 2) * (ss P v - ss P (endN L e)) := by
            unfold Geo.y
            have : Geo.Y (tt P) (ss P) (wlo P L) (whi P L) (cc Q P L) (e / 2) (tt P v - 1) = Geo.Y (tt P) (ss P) (wlo P L) (whi P L) (cc Q P L) (e / 2) (tt P v) - Geo.ka (ss P) (wlo P L) (whi P L) (cc Q P L) (e / 2) := by unfold Geo.Y; rw [Int.mul_sub]; omega
            rw [this, Int.sub_add_cancel, z2]; unfold Geo.ka; rw [a3, a4]; omega
          have z5 : (ss P v - ss P (endN L e)) * (tt P v - tt P (endN L d)) - (ss P v - ss P (endN L d)) * (tt P v - tt P (endN L e)) = 21 * trnP P v (endN L d) (endN L e) := by rw [← hDv]; unfold Geo.D; grind
          rw [z5] at sp
          rw [z3, z4]
          omega
  cases g1 : Geo.rt (tt P) (fromN L) (toN L) d <;> cases g2 : Geo.rt (tt P) (fromN L) (toN L) e <;> rw [g1] at hpd sl <;> rw [g2] at hpe sl <;> simp only [Bool.false_eq_true, false_iff, true_iff, false_and, and_false, true_and, and_true, or_false, false_or, forall_const, false_implies, reduceCtorEq, implies_true] at hpd hpe sl ⊢
  · rw [sl]; omega
  · exact iff_of_false (by rintro (q | ⟨q, _⟩) <;> omega) id
  · simp only [iff_true]; exact .inl (by omega)
  · rw [sl]; omega
end
end Go.Proofs.YtgmhmlhdiklaaaaGreatDoor

/- Deg -/
namespace Go.Proofs.YtgmhmlhdiklaaaaGreatDoor
open Go.RowKit Ring
set_option linter.unusedVariables false

section
variable {n m : Nat} {P L : Nat → Nat → Int}
theorem end_inj (h : winB n P m L = true) {d e : Nat} (hd : d < 2 * m) (he : e < 2 * m) (h1 : orgN L d = orgN L e) (h2 : endN L d = endN L e) : d = e := by
  have kd := win_ends h (d / 2) (by omega)
  have ke := win_ends h (e / 2) (by omega)
  unfold endN orgN at h2
  unfold orgN at h1
  rw [tw_half, tw_half] at h2
  by_cases q : d / 2 = e / 2
  · rw [q] at h1
    rcases Nat.mod_two_eq_zero_or_one d with a | a <;> rcases Nat.mod_two_eq_zero_or_one e with b | b
    · omega
    · rw [if_pos a, if_neg (by omega)] at h1; omega
    · rw [if_neg (by omega), if_pos b] at h1; omega
    · omega
  · exfalso
    have hc := (win_cross h (by omega) (by omega) q).1
    rcases Nat.mod_two_eq_zero_or_one d with a | a <;> rcases Nat.mod_two_eq_zero_or_one e with b | b
    · rw [if_pos a, if_pos b] at h1
      rw [tw_even a, tw_even b, if_neg (by omega), if_neg (by omega)] at h2
      exact hc ⟨h1, h2⟩
    · rw [if_pos a, if_neg (by omega)] at h1
      rw [tw_even a, tw_odd b, if_neg (by omega), if_pos (by omega)] at h2
      omega
    · rw [if_neg (by omega), if_pos b] at h1
      rw [tw_odd a, tw_even b, if_pos (by omega), if_neg (by omega)] at h2
      omega
    · rw [if_neg (by omega), if_neg (by omega)] at h1
      rw [tw_odd a, tw_odd b, if_pos (by omega), if_pos (by omega)] at h2
      exact hc ⟨h2, h1⟩
theorem deg_le (h : winB n P m L = true) (k : Nat) : (atN L k (2 * m)).length ≤ n := by
  have h1 : ((atN L k (2 * m)).map (endN L)).Nodup := by
    have := atN_nodup L k (2 * m)
    rw [List.nodup_iff_pairwise_ne] at this ⊢
    rw [List.pairwise_map]
    refine List.Pairwise.imp_of_mem ?_ this
    intro a b ha hb hab e
    have xa := atN_mem.1 ha
    have xb := atN_mem.1 hb
    exact hab (end_inj h xa.1 xb.1 (xa.2.trans xb.2.symm) e)
  have := nodup_len n _ h1 (fun x hx => by
    obtain ⟨d, hd, rfl⟩ := List.mem_map.1 hx
    exact endN_lt (win_ends h) (atN_mem.1 hd).1)
  simpa using this
theorem ltD_irr (P L : Nat → Nat → Int) (k x : Nat) : ltD P L k x x = false := by
  unfold ltD befV
  have : trn (P k 0) (P k 1) (P (endN L x) 0) (P (endN L x) 1) (P (endN L x) 0) (P (endN L x) 1) = 0 := by unfold trn; grind
  rw [this]; simp
end
/-- What the program's comparison of two darts at the node k hands back. -/
def cmpD (P L : Nat → Nat → Int) (k x y : Nat) : Int := if x = y then 0 else if ltD P L k x y = true then -1 else 1
theorem cmpD_same (P L : Nat → Nat → Int) (k x : Nat) : cmpD P L k x x = 0 := if_pos rfl
theorem cmpD_lt {P L : Nat → Nat → Int} {k x y : Nat} (h : x ≠ y) (h2 : ltD P L k x y = true) : cmpD P L k x y = -1 := by unfold cmpD; rw [if_neg h, if_pos h2]
theorem cmpD_ge {P L : Nat → Nat → Int} {k x y : Nat} (h : x ≠ y) (h2 : ltD P L k x y = false) : cmpD P L k x y = 1 := by unfold cmpD; rw [if_neg h, if_neg (by rw [h2]; simp)]
theorem cmpD_fun (P L : Nat → Nat → Int) (k : Nat) : (fun x y => decide (cmpD P L k x y < 0)) = ltD P L k := by
  funext x y
  by_cases e : x = y
  · subst e; rw [cmpD_same, ltD_irr]; rfl
  · cases q : ltD P L k x y
    · rw [cmpD_ge e q]; rfl
    · rw [cmpD_lt e q]; rfl
end Go.Proofs.YtgmhmlhdiklaaaaGreatDoor

/- WinFace -/
namespace Go.Proofs.YtgmhmlhdiklaaaaGreatDoor
open Go.RowKit Ring
set_option linter.unusedVariables false

/-- The determinant of a dart's ends, as the program counts it. -/
def crsD (P L : Nat → Nat → Int) (d : Nat) : Int := P (orgN L d) 0 * P (endN L d) 1 - P (orgN L d) 1 * P (endN L d) 0
/-- Twice the signed area of a walk. -/
def areaL (P L : Nat → Nat → Int) (r : List Nat) : Int := psum (fun i => crsD P L (r.getD i 0)) r.length
def lsum (g : Nat → Int) : List Nat → Int
  | [] => 0
  | x :: l => g x + lsum g l
theorem psum_cons (g : Nat → Int) : ∀ n, psum g (n + 1) = g 0 + psum (fun i => g (i + 1)) n
  | 0 => by show (0 : Int) + g 0 = g 0 + 0; omega
  | n + 1 => by
    show psum g (n + 1) + g (n + 1) = g 0 + (psum (fun i => g (i + 1)) n + g (n + 1))
    rw [psum_cons g n]; omega
theorem psum_list (g : Nat → Int) : ∀ l : List Nat, psum (fun i => g (l.getD i 0)) l.length = lsum g l
  | [] => rfl
  | x :: l => by
    show psum (fun i => g ((x :: l).getD i 0)) (l.length + 1) = g x + lsum g l
    rw [psum_cons, ← psum_list g l]
    rfl
theorem lsum_ind (g : Nat → Int) (M : Nat) : ∀ l : List Nat, l.Nodup → (∀ x ∈ l, x < M) → Geo.sumN (fun d => (if d ∈ l then 1 else 0) * g d) M = lsum g l
  | [], _, _ => Geo.sumN_zero fun k _ => by simp
  | x :: l, hn, hx => by
    rw [List.nodup_cons] at hn
    show _ = g x + lsum g l
    rw [← lsum_ind g M l hn.2 (fun y hy => hx y (by simp [hy])), ← Geo.sumN_at x g M (hx x (by simp)), ← Geo.sumN_add]
    refine Geo.sumN_congr fun d _ => ?_
    by_cases e : d = x
    · subst e
      simp [hn.1]
    · simp [e]
theorem flat_one : ∀ (R : List (List Nat)), R.flatten.Nodup → ∀ i j x, i < R.length → j < R.length → x ∈ R.getD i [] → x ∈ R.getD j [] → i = j
  | [], _, i, _, _, hi, _, _, _ => by simp at hi
  | r :: R, h, i, j, x, hi, hj, h1, h2 => by
    rw [List.flatten_cons, List.nodup_append] at h
    have mem : ∀ k, k < R.length → x ∈ R.getD k [] → x ∈ R.flatten := fun k hk hx => List.mem_flatten.2 ⟨R.getD k [], by rw [List.getD_eq_getElem?_getD, List.getElem?_eq_getElem hk]; exact List.getElem_mem hk, hx⟩
    cases i with
    | zero =>
      cases j with
      | zero => rfl
      | succ j => exact absurd rfl (h.2.2 x h1 x (mem j (by simpa using hj) h2))
    | succ i =>
      cases j with
      | zero => exact absurd rfl (h.2.2 x h2 x (mem i (by simpa using hi) h1))
      | succ j => rw [flat_one R h.2.1 i j x (by simpa using hi) (by simpa using hj) h1 h2]

section
variable {n m : Nat} {P L : Nat → Nat → Int}
theorem faces_sign (h : winB n P m L = true) (hw : ∀ i, i < n → Net.lab (fromN L) (toN L) m i = 0) (hm : 0 < m) :
    ∃ f0, f0 < (fcs P L m).length ∧ ∀ f, f < (fcs P L m).length → (f = f0 → areaL P L ((fcs P L m).getD f []) ≤ 0) ∧ (f ≠ f0 → 0 < areaL P L ((fcs P L m).getD f [])) := by
  obtain ⟨Q, hQ, hdiv⟩ := big_exists
  have hD := dr_win h hQ hdiv
  have hE := win_ends h
  have T : ∀ v, Ring.Tot (ltD P L v) (fun d => d < 2 * m ∧ orgN L d = v) := fun v => by
    refine ⟨fun x hx => ?_, fun x y z hx hy hz h1 h2 => ?_, fun x y hx hy hne => ?_⟩
    · cases e : ltD P L v x x
      · rfl
      · exact absurd ((ltD_bef h hQ hdiv hx.1 hx.1 hx.2 hx.2).1 e) Geo.Bef.irr
    · exact (ltD_bef h hQ hdiv hx.1 hz.1 hx.2 hz.2).2 (((ltD_bef h hQ hdiv hx.1 hy.1 hx.2 hy.2).1 h1).trans_ ((ltD_bef h hQ hdiv hy.1 hz.1 hy.2 hz.2).1 h2))
    · rcases Geo.Bef.total hD hx.1 hy.1 hx.2 hy.2 hne with q | q
      · exact .inl ((ltD_bef h hQ hdiv hx.1 hy.1 hx.2 hy.2).2 q)
      · exact .inr ((ltD_bef h hQ hdiv hy.1 hx.1 hy.2 hx.2).2 q)
  have hS : ∀ v, Sd (ltD P L v) (arr P L m v) := fun v => sorted (T v) (fun y hy => atN_mem.1 hy) (atN_nodup L v (2 * m))
  have hA : ∀ v, ∀ y ∈ arr P L m v, y < 2 * m ∧ orgN L y = v := fun v y hy => arr_mem.1 hy
  have hP : ∀ d, d < 2 * m → Geo.Prev m (tt P) (ss P) (fromN L) (toN L) (cc Q P L) (Geo.fr (fromN L) (toN L) (Geo.tw d)) (nxt P L m d) (Geo.tw d) := by
    intro d hd
    have ht := tw_lt hd
    have hn := nxt_lt (P := P) (L := L) hd
    have hno := nxt_org (P := P) (L := L) hd
    have hlt : ∀ e, e < 2 * m → orgN L e = endN L d → ∀ x, x < 2 * m → orgN L x = endN L d → (ltD P L (endN L d) e x = true ↔ Geo.Bef (tt P) (ss P) (fromN L) (toN L) (cc Q P L) (endN L d) e x) := fun e he ev x hx xv => ltD_bef h hQ hdiv he hx ev xv
    show Geo.Prev m (tt P) (ss P) (fromN L) (toN L) (cc Q P L) (endN L d) (nxt P L m d) (tw d)
    rcases prd_prev (T (endN L d)) (hS (endN L d)) (hA (endN L d)) (arr_mem.2 ⟨ht, rfl⟩ : tw d ∈ arr P L m (endN L d)) with ⟨q1, q2⟩ | ⟨q1, q2⟩
    · refine .inl ⟨(hlt _ hn hno _ ht rfl).1 q1, fun e he ev => ?_⟩
      rintro ⟨r1, r2⟩
      exact q2 e (arr_mem.2 ⟨he, ev⟩) ⟨(hlt _ hn hno _ he ev).2 r1, (hlt _ he ev _ ht rfl).2 r2⟩
    · refine .inr ⟨fun e he ev r => ?_, fun e he ev r => ?_⟩
      · have := q1 e (arr_mem.2 ⟨he, ev⟩)
        rw [(hlt _ he ev _ ht rfl).2 r] at this; cases this
      · have q3 : ltD P L (endN L d) (nxt P L m d) e = false := q2 e (arr_mem.2 ⟨he, ev⟩)
        rw [(hlt _ hn hno _ he ev).2 r] at q3; cases q3
  -- the outer dart
  obtain ⟨d1, hd1, _, hmin⟩ := Geo.exists_min (fun _ => True) (fun d => tt P (orgN L d)) (2 * m) ⟨0, by omega, trivial⟩
  have hl1 : d1 ∈ arr P L m (orgN L d1) := arr_self hd1
  have hl0 : 0 < (arr P L m (orgN L d1)).length := List.length_pos_of_mem hl1
  obtain ⟨o, ho⟩ : ∃ o, o = (arr P L m (orgN L d1)).getD 0 0 := ⟨_, rfl⟩
  have hom : o ∈ arr P L m (orgN L d1) := by rw [ho]; exact getD_mem hl0
  have ho2 := arr_mem.1 hom
  have hfst : ∀ e, e < 2 * m → Geo.fr (fromN L) (toN L) e = Geo.fr (fromN L) (toN L) o → ¬ Geo.Bef (tt P) (ss P) (fromN L) (toN L) (cc Q P L) (Geo.fr (fromN L) (toN L) o) e o := by
    intro e he ev r
    have ev' : orgN L e = orgN L d1 := by rw [← ho2.2]; exact ev
    have hem : e ∈ arr P L m (orgN L d1) := arr_mem.2 ⟨he, ev'⟩
    have r' : Geo.Bef (tt P) (ss P) (fromN L) (toN L) (cc Q P L) (orgN L d1) e o := by rw [← ho2.2]; exact r
    have := (ltD_bef h hQ hdiv he ho2.1 ev' ho2.2).2 r'
    rw [← idx_get hem, ho] at this
    have := sd_lt (T _) (hS _) (hA _) (idx_lt hem) hl0 this
    omega
  have hmin2 : ∀ e, e < 2 * m → tt P (Geo.fr (fromN L) (toN L) o) ≤ tt P (Geo.fr (fromN L) (toN L) e) := by
    intro e he
    have := hmin e he trivial
    rw [fr_org, fr_org, ho2.2]; exact this
  -- its twin's face
  obtain ⟨r0, hr0, hx0⟩ := List.mem_flatten.1 (fcs_all (P := P) (L := L) (tw_lt ho2.1))
  obtain ⟨f0, hf0, e0⟩ := List.getElem_of_mem hr0
  have g0 : (fcs P L m).getD f0 [] = r0 := by rw [List.getD_eq_getElem?_getD, List.getElem?_eq_getElem hf0]; exact e0
  refine ⟨f0, hf0, fun f hf => ?_⟩
  have hrm : (fcs P L m).getD f [] ∈ fcs P L m := by rw [List.getD_eq_getElem?_getD, List.getElem?_eq_getElem hf]; exact List.getElem_mem hf
  obtain ⟨e1, he1, hr⟩ := rnds_mem hrm
  have hlt : ∀ x ∈ (fcs P L m).getD f [], x < 2 * m := fun x hx => fcs_lt hrm hx
  have hnd : ((fcs P L m).getD f []).Nodup := by rw [hr]; exact rnd_nodup (nxt_bij P L m) (by omega)
  have hone : tw o ∈ (fcs P L m).getD f [] ↔ f = f0 := by
    constructor
    · intro q; exact flat_one _ fcs_nodup f f0 (tw o) hf hf0 q (by rw [g0]; exact hx0)
    · intro q; rw [q, g0]; exact hx0
  have key := Geo.area_sign hD (nx := nxt P L m) (F := fun d => if d ∈ (fcs P L m).getD f [] then 1 else 0) (nxt_bij P L m) (fun d hd => nxt_org hd) (fun d hd => by
      have := rnd_nx (nxt_bij P L m) (show e1 < 2 * m by omega) hd
      rw [← hr] at this
      simp only [this]) hP (arr P L m) (fun v d => arr_mem) (fun v => arr_nodup v) (fun d hd => rfl) hw (fun d hd => by split <;> simp) ho2.1 hmin2 hfst
  have hsum : Geo.sumN (fun d => (if d ∈ (fcs P L m).getD f [] then 1 else 0) * Geo.detD (tt P) (ss P) (fromN L) (toN L) d) (2 * m) = 21 * areaL P L ((fcs P L m).getD f []) := by
    unfold areaL
    rw [psum_list, ← lsum_ind (crsD P L) (2 * m) _ hnd hlt, ← Geo.sumN_mul]
    refine Geo.sumN_congr fun d _ => ?_
    have e : Geo.detD (tt P) (ss P) (fromN L) (toN L) d = 21 * crsD P L d := by
      show tt P (orgN L d) * ss P (endN L d) - ss P (orgN L d) * tt P (endN L d) = _
      unfold tt ss crsD
      grind
    rw [e]
    grind
  have key2 : (tw o ∈ (fcs P L m).getD f [] → 21 * areaL P L ((fcs P L m).getD f []) ≤ 0) ∧ (¬ tw o ∈ (fcs P L m).getD f [] → 0 < 21 * areaL P L ((fcs P L m).getD f [])) := by
    rw [← hsum]
    constructor
    · intro q; exact key.1 (if_pos q)
    · intro q
      refine key.2 (if_neg q) ⟨e1, by omega, if_pos ?_⟩
      rw [hr]; exact rnd_self
  constructor
  · intro q
    have := key2.1 (hone.2 q)
    omega
  · intro q
    have := key2.2 (fun r => q (hone.1 r))
    omega
end
end Go.Proofs.YtgmhmlhdiklaaaaGreatDoor
