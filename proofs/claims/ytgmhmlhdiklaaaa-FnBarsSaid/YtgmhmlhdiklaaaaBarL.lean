/-
  The law of the fewest bars, in plain numbers. Plain.
-/
import Derived.Test.YtgmhmlhdiklaaaaBarZ
import Derived.Test.YtgmhmlhdiklaaaaUnheld
import Derived.Test.YtgmhmlhdiklaaaaHasL
namespace Go.Proofs.Ytgmhmlhdiklaaaa
open Go.RowKit
set_option linter.unusedVariables false

theorem recs_nil (w : World) (s : Nat) : Recs w s none 0 (fun _ _ => 0) := ⟨fun h => absurd h (by omega), fun _ _ => (by unfold I64; omega : I64 0)⟩
section
variable {lo hi p : Int}
theorem eight (h : 1 ≤ p ∧ p ≤ 8) : p = 1 ∨ p = 2 ∨ p = 3 ∨ p = 4 ∨ p = 5 ∨ p = 6 ∨ p = 7 ∨ p = 8 := by omega
theorem few_spec (hl : 0 ≤ lo ∧ lo ≤ 20) (hh : 0 ≤ hi ∧ hi ≤ 20) (hp : 1 ≤ p ∧ p ≤ 8) : ∃ k : Nat, fewN lo hi p = k ∧ k ≤ 20 ∧ hi - (lo + p * k) ≤ p ∧ ∀ j : Nat, j < k → p < hi - (lo + p * j) := by
  rcases fdx_cases (fun k => !decide (p < hi - (lo + p * k))) 25 with ⟨h1, h2⟩ | ⟨j, h1, h2, h3, h4⟩
  · have := h1 20 (by omega)
    rcases eight hp with rfl | rfl | rfl | rfl | rfl | rfl | rfl | rfl <;> simp at this <;> omega
  · have h2' : ¬ p < hi - (lo + p * j) := by simpa using h2
    have h3' : ∀ i : Nat, i < j → p < hi - (lo + p * i) := fun i hi => by simpa using h3 i hi
    refine ⟨j, fewN_at h1 h2' h3', ?_, by omega, h3'⟩
    rcases Nat.lt_or_ge 20 j with q | q
    · have := h3' 20 q
      rcases eight hp with rfl | rfl | rfl | rfl | rfl | rfl | rfl | rfl <;> omega
    · exact q
theorem fewT_ix {k i : Nat} (h : i < k) : ix (fewT lo p k) i = lo + p * ((i : Int) + 1) := tab_ix h
/-- Where the bars lie, below hi. -/
theorem few_in (hp : 1 ≤ p ∧ p ≤ 8) {k : Nat} (h3 : ∀ j : Nat, j < k → p < hi - (lo + p * j)) {i : Nat} (hi' : i < k) : lo + p * ((i : Int) + 1) < hi ∧ lo < lo + p * ((i : Int) + 1) := by
  have := h3 i hi'
  rcases eight hp with rfl | rfl | rfl | rfl | rfl | rfl | rfl | rfl <;> omega
theorem few_bars (hl : 0 ≤ lo ∧ lo ≤ 20) (hh : 0 ≤ hi ∧ hi ≤ 20) (hp : 1 ≤ p ∧ p ≤ 8) {k : Nat} (h3 : ∀ j : Nat, j < k → p < hi - (lo + p * j)) (hk : k ≤ 10) : barsB k (fun i _ => ix (fewT lo p k) i) = true := by
  unfold barsB risB
  rw [Bool.and_eq_true]
  refine ⟨by simpa using hk, allB_yes fun i hi' => ?_⟩
  have e1 := few_in hp h3 hi'
  by_cases h0 : i = 0
  · subst h0
    exact risAt_zero (inB_yes (by show 0 ≤ ix (fewT lo p k) 0 ∧ ix (fewT lo p k) 0 ≤ 20; rw [fewT_ix hi']; omega))
  · refine risAt_yes (inB_yes (by show 0 ≤ ix (fewT lo p k) i ∧ ix (fewT lo p k) i ≤ 20; rw [fewT_ix hi']; omega)) ?_
    show ix (fewT lo p k) (i - 1) < ix (fewT lo p k) i
    rw [fewT_ix hi', fewT_ix (by omega)]
    rcases eight hp with rfl | rfl | rfl | rfl | rfl | rfl | rfl | rfl <;> omega
/-- How many there are. -/
theorem few_cnt (hlh : lo ≤ hi) (hp : 1 ≤ p ∧ p ≤ 8) {k : Nat} (h2 : hi - (lo + p * k) ≤ p) (h3 : ∀ j : Nat, j < k → p < hi - (lo + p * j)) :
    (hi - lo ≤ 11 * p → k ≤ 10) ∧ (11 * p < hi - lo → 11 ≤ k) ∧ (k : Int) * p ≤ max 0 (hi - lo - 1) ∧ hi - lo ≤ ((k : Int) + 1) * p := by
  have h4 : 0 < k → p < hi - (lo + p * ((k - 1 : Nat) : Int)) := fun h => h3 (k - 1) (by omega)
  rcases eight hp with rfl | rfl | rfl | rfl | rfl | rfl | rfl | rfl <;> (rcases Nat.eq_zero_or_pos k with q | q <;> (try have := h4 q) <;> omega)
/-- The gaps between them. -/
theorem few_gap (hl : 0 ≤ lo ∧ lo ≤ 20) (hlh : lo ≤ hi) (hp : 1 ≤ p ∧ p ≤ 8) {k : Nat} (h3 : ∀ j : Nat, j < k → p < hi - (lo + p * j)) : ∀ i : Nat, i ≤ k → (gapF lo hi (fun i _ => ix (fewT lo p k) i) i).1 ≤ p ∧ (gapF lo hi (fun i _ => ix (fewT lo p k) i) i).2 = lo + p * i
  | 0, _ => by show (0 : Int) ≤ p ∧ lo = lo + p * ((0 : Nat) : Int); simp; omega
  | i + 1, hi' => by
    obtain ⟨g1, g2⟩ := few_gap hl hlh hp h3 i (by omega)
    have e := few_in hp h3 (i := i) (by omega)
    have ex : ix (fewT lo p k) i = lo + p * ((i : Int) + 1) := fewT_ix (by omega)
    rw [gapF_yes (inB_yes (by rw [ex]; omega))]
    show max (gapF lo hi (fun i _ => ix (fewT lo p k) i) i).1 (ix (fewT lo p k) i - (gapF lo hi (fun i _ => ix (fewT lo p k) i) i).2) ≤ p ∧ ix (fewT lo p k) i = lo + p * ((i + 1 : Nat) : Int)
    rw [g2, ex]
    rcases eight hp with rfl | rfl | rfl | rfl | rfl | rfl | rfl | rfl <;> omega
/-- A lead longer than the distance is crossed. -/
theorem few_hit (hp : 1 ≤ p ∧ p ≤ 8) {k : Nat} (h2 : hi - (lo + p * k) ≤ p) (h3 : ∀ j : Nat, j < k → p < hi - (lo + p * j)) {a b : Int} (ha : lo ≤ a ∧ a ≤ hi) (hb : lo ≤ b ∧ b ≤ hi) (hab : p < max a b - min a b) :
    ∃ i : Nat, i < k ∧ min a b ≤ lo + p * ((i : Int) + 1) ∧ lo + p * ((i : Int) + 1) ≤ max a b := by
  -- the bar just above the lower end, or the one before it
  have key : ∃ q : Nat, min a b ≤ lo + p * q ∧ lo + p * q < min a b + p := by
    refine ⟨((min a b - lo + p - 1) / p).toNat, ?_⟩
    rcases eight hp with rfl | rfl | rfl | rfl | rfl | rfl | rfl | rfl <;> omega
  obtain ⟨q, q1, q2⟩ := key
  by_cases q0 : q = 0
  · subst q0
    refine ⟨0, ?_, ?_, ?_⟩
    · rcases Nat.eq_zero_or_pos k with z | z
      · subst z; exfalso; simp at h2; omega
      · exact z
    · simp at q1 ⊢; omega
    · simp at q1 q2 ⊢; omega
  · by_cases hq : q ≤ k
    · refine ⟨q - 1, by omega, ?_, ?_⟩
      · rw [show ((q - 1 : Nat) : Int) + 1 = q by omega]; exact q1
      · rw [show ((q - 1 : Nat) : Int) + 1 = q by omega]; omega
    · exfalso
      have hm : p * (k : Int) + p ≤ p * q := by
        rcases eight hp with rfl | rfl | rfl | rfl | rfl | rfl | rfl | rfl <;> omega
      by_cases e : q = k + 1
      · subst e
        have e2 : p * ((k + 1 : Nat) : Int) = p * k + p := by rw [Int.natCast_add]; show p * ((k : Int) + 1) = _; rw [Int.mul_add, Int.mul_one]
        rw [e2] at q1 q2
        omega
      · have : p * (k : Int) + 2 * p ≤ p * q := by
          rcases eight hp with rfl | rfl | rfl | rfl | rfl | rfl | rfl | rfl <;> omega
        omega
end
section
variable {n m : Nat} {P L : Nat → Nat → Int} {p : Int}
theorem lo_le (P : Nat → Nat → Int) : ∀ n, loF P n ≤ hiF P n ∧ ∀ k, k < n → loF P n ≤ P k 1 ∧ P k 1 ≤ hiF P n
  | 0 => ⟨Int.le_refl _, fun k hk => absurd hk (by omega)⟩
  | n + 1 => by
    obtain ⟨h1, h2⟩ := lo_le P n
    show min (loF P n) (P n 1) ≤ max (hiF P n) (P n 1) ∧ ∀ k, k < n + 1 → min (loF P n) (P n 1) ≤ P k 1 ∧ P k 1 ≤ max (hiF P n) (P n 1)
    refine ⟨by omega, fun k hk => ?_⟩
    by_cases e : k = n
    · subst e; omega
    · have := h2 k (by omega); omega
theorem wid_nil (hw : winB n P m L = true) (f : Nat → Nat → Int) : widV n P m L 0 f = hiF P n - loF P n := by
  have h1 := (lo_le P n).1
  rw [widV_yes (by rw [hw]; rfl)]
  show max 0 (hiF P n - loF P n) = _
  omega
/-- What the law says of the bars themselves. -/
theorem bars_law (hw : winB n P m L = true) (hp : 1 ≤ p ∧ p ≤ 8) :
    (11 * p < hiF P n - loF P n → fewV n P m L p = []) ∧
    (hiF P n - loF P n ≤ 11 * p → barsB (fewV n P m L p).length (fun i _ => ix (fewV n P m L p) i) = true ∧ (fewV n P m L p).length ≤ 10 ∧ widV n P m L (fewV n P m L p).length (fun i _ => ix (fewV n P m L p) i) ≤ p ∧
      ((fewV n P m L p).length : Int) * p ≤ max 0 (hiF P n - loF P n - 1) ∧ hiF P n - loF P n ≤ (((fewV n P m L p).length : Int) + 1) * p ∧
      ∀ k, k < m → 0 ≤ crsV n P m L k (fewV n P m L p).length (fun i _ => ix (fewV n P m L p) i) ∧ crsV n P m L k (fewV n P m L p).length (fun i _ => ix (fewV n P m L p) i) ≤ (fewV n P m L p).length ∧
        (crsV n P m L k (fewV n P m L p).length (fun i _ => ix (fewV n P m L p) i) = 0 → max (P (fromN L k) 1) (P (toN L k) 1) - min (P (fromN L k) 1) (P (toN L k) 1) ≤ p)) := by
  obtain ⟨hsz, hN, _⟩ := winB_get hw
  have hbd := loF_bd hN (by omega) n (Nat.le_refl _)
  obtain ⟨hle, hin⟩ := lo_le P n
  obtain ⟨k, e, hk, h2, h3⟩ := few_spec (lo := loF P n) (hi := hiF P n) hbd.1 hbd.2 hp
  obtain ⟨c1, c2, c3, c4⟩ := few_cnt hle hp h2 h3
  have hip : (winB n P m L && inB p 1 20) = true := by rw [hw, inB_yes (by omega)]; rfl
  rw [fewV_yes hip, e]
  constructor
  · intro q
    have := c2 q
    refine fewB_no ?_
    rw [fewT_len]
    unfold barsB
    rw [Bool.and_eq_false_iff]
    exact .inl (by simp; omega)
  · intro q
    have hk10 := c1 q
    have hb := few_bars hbd.1 hbd.2 hp h3 hk10
    rw [fewB_yes (by rw [fewT_len]; exact hb), fewT_len]
    refine ⟨hb, hk10, ?_, c3, c4, fun l hl => ?_⟩
    · rw [widV_yes (by rw [hw, hb]; rfl)]
      obtain ⟨g1, g2⟩ := few_gap hbd.1 hle hp h3 k (Nat.le_refl _)
      rw [g2]; omega
    · have he := winB_ends hw hl
      rw [crsV_yes (by rw [hw, hb, inB_yes (by omega)]; rfl)]
      have hcl := Net.cnt_le (barAt P L ((l : Int)).toNat (fun i _ => ix (fewT (loF P n) p k) i)) k
      refine ⟨by omega, by omega, fun z => ?_⟩
      rcases Int.lt_or_le p (max (P (fromN L l) 1) (P (toN L l) 1) - min (P (fromN L l) 1) (P (toN L l) 1)) with r | r
      · exfalso
        obtain ⟨i, i1, i2, i3⟩ := few_hit hp h2 h3 (hin _ (by omega)) (hin _ he.2.2.2) r
        have hyes : barAt P L ((l : Int)).toNat (fun i _ => ix (fewT (loF P n) p k) i) i = true := by
          unfold barAt
          rw [Int.toNat_natCast]
          exact inB_yes (by show _ ≤ ix (fewT (loF P n) p k) i ∧ ix (fewT (loF P n) p k) i ≤ _; rw [fewT_ix i1]; exact ⟨i2, i3⟩)
        have := Net.cnt_lt (r := fun _ => false) (q := barAt P L ((l : Int)).toNat (fun i _ => ix (fewT (loF P n) p k) i)) (fun _ h => by cases h) rfl hyes k i1
        omega
      · exact r
end
end Go.Proofs.Ytgmhmlhdiklaaaa
