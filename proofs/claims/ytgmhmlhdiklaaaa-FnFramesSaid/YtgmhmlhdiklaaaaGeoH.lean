/-
  Plane drawings of straight lines, part H: the moment of a flow. Plain arithmetic.
-/
import Derived.Test.YtgmhmlhdiklaaaaGeoM
namespace Go.Proofs.Ytgmhmlhdiklaaaa.Geo

def q3 (a b : Int) : Int := a * a + a * b + b * b
def pp (a : Int) : Int := if a ≤ 0 then 0 else a
theorem pp_nn (a : Int) : 0 ≤ pp a := by unfold pp; split <;> omega
theorem pp_mono {a b : Int} (h : a ≤ b) : pp a ≤ pp b := by unfold pp; split <;> split <;> omega
theorem pp_self {a : Int} (h : 0 ≤ a) : pp a = a := by unfold pp; split <;> omega
theorem q3_mono {a b a' b' : Int} (h0 : 0 ≤ a) (h1 : 0 ≤ b) (ha : a ≤ a') (hb : b ≤ b') : q3 a b ≤ q3 a' b' := by
  have e1 : a * a ≤ a' * a' := Int.mul_le_mul ha ha h0 (by omega)
  have e2 : a * b ≤ a' * b' := Int.mul_le_mul ha hb h1 (by omega)
  have e3 : b * b ≤ b' * b' := Int.mul_le_mul hb hb h1 (by omega)
  unfold q3; omega
theorem q3_neg (a b : Int) : q3 (-a) (-b) = q3 a b := by unfold q3; grind
theorem trap3 (al ka a : Int) : ∀ w : Nat, sumN (fun i => q3 (al + ka * (a + i)) (al + ka * (a + i + 1))) w = (w : Int) * q3 (al + ka * a) (al + ka * (a + w))
  | 0 => by simp [sumN]
  | w + 1 => by
    show sumN (fun i => q3 (al + ka * (a + i)) (al + ka * (a + i + 1))) w + q3 (al + ka * (a + w)) (al + ka * (a + w + 1)) = _
    rw [trap3 al ka a w]
    unfold q3
    grind

section
variable {n m : Nat} {t s : Nat → Int} {a b : Nat → Nat} {c : Nat → Int} {L : Int} {F : Nat → Int} {lo hi : Nat → Nat} {σ : Nat → Int}

/-- The flow in a strip times a quantity that grows with the height. -/
theorem strip_mono (h : Dr n m t s lo hi c L) (hC : Circ n m lo hi σ) {T0 : Int} (hT : ∀ l, l < m → T0 ≤ t (lo l)) (x : Int) (hx : T0 ≤ x + 1) (g : Nat → Int)
    (hg : ∀ k l, k < m → l < m → (t (lo k) ≤ x ∧ x < t (hi k)) → (t (lo l) ≤ x ∧ x < t (hi l)) → y t s lo hi c k x ≤ y t s lo hi c l x → g k ≤ g l)
    (hN : ∀ k, k < m → (t (lo k) ≤ x ∧ x < t (hi k)) → N m t s lo hi c σ x (y t s lo hi c k x) ≤ 0) :
    0 ≤ sumN (fun l => if t (lo l) ≤ x ∧ x < t (hi l) then σ l * g l else 0) m := by
  obtain ⟨M, hM⟩ := bound1 g m
  have ht : Tot m t lo hi σ x = 0 := by
    have := tot_zero h hC hT (x + 1 - T0).toNat
    rwa [show T0 - 1 + (((x + 1 - T0).toNat : Nat) : Int) = x by omega] at this
  have e1 : sumN (fun l => if t (lo l) ≤ x ∧ x < t (hi l) then σ l * g l else 0) m =
      sumN (fun l => sumN (fun i => (if t (lo l) ≤ x ∧ x < t (hi l) then σ l else 0) - (if (t (lo l) ≤ x ∧ x < t (hi l)) ∧ g l ≤ -(M : Int) + i then σ l else 0)) (2 * M)) m - M * Tot m t lo hi σ x := by
    unfold Tot
    rw [← sumN_mul, ← sumN_sub]
    refine sumN_congr fun l hl => ?_
    by_cases gg : t (lo l) ≤ x ∧ x < t (hi l)
    · have hb := hM l hl
      simp only [if_pos gg]
      have e2 : sumN (fun i => σ l - (if (t (lo l) ≤ x ∧ x < t (hi l)) ∧ g l ≤ -(M : Int) + i then σ l else 0)) (2 * M) = sumN (fun i => σ l * (if g l ≤ -(M : Int) + i then 0 else 1)) (2 * M) := by
        refine sumN_congr fun i _ => ?_
        by_cases p : g l ≤ -(M : Int) + i
        · rw [if_pos ⟨gg, p⟩, if_pos p]; omega
        · rw [if_neg (fun q => p q.2), if_neg p]; omega
      rw [e2, sumN_mul, ← layers M _ (by omega) (by omega), Int.mul_add, Int.mul_comm (M : Int)]
      omega
    · simp only [if_neg gg]
      rw [sumN_zero (fun i _ => by rw [if_neg (fun q => gg q.1)]; rfl), Int.mul_zero]; rfl
  rw [e1, ht, Int.mul_zero, Int.sub_zero, sumN_comm]
  refine sumN_nonneg fun i _ => ?_
  rw [sumN_sub]
  show 0 ≤ Tot m t lo hi σ x - sumN (fun l => if (t (lo l) ≤ x ∧ x < t (hi l)) ∧ g l ≤ -(M : Int) + i then σ l else 0) m
  rw [ht]
  have key : sumN (fun l => if (t (lo l) ≤ x ∧ x < t (hi l)) ∧ g l ≤ -(M : Int) + i then σ l else 0) m ≤ 0 := by
    by_cases hex : ∃ l, l < m ∧ ((t (lo l) ≤ x ∧ x < t (hi l)) ∧ g l ≤ -(M : Int) + i)
    · obtain ⟨k, k1, k2, k3⟩ := exists_min (fun l => (t (lo l) ≤ x ∧ x < t (hi l)) ∧ g l ≤ -(M : Int) + i) (fun l => - y t s lo hi c l x) m hex
      refine Int.le_trans (Int.le_of_eq (sumN_congr fun l hl => ?_)) (hN k k1 k2.1)
      by_cases p : (t (lo l) ≤ x ∧ x < t (hi l)) ∧ g l ≤ -(M : Int) + i
      · have := k3 l hl p
        rw [if_pos p, if_pos ⟨p.1, by omega⟩]
      · rw [if_neg p]
        by_cases p1 : (t (lo l) ≤ x ∧ x < t (hi l)) ∧ y t s lo hi c l x ≤ y t s lo hi c k x
        · exfalso
          have := hg l k hl k1 p1.1 k2.1 p1.2
          exact p ⟨p1.1, by omega⟩
        · rw [if_neg p1]
    · exact Int.le_of_eq (sumN_zero fun l hl => if_neg fun p => hex ⟨l, hl, p⟩)
  omega

/-- What the height of a node becomes. -/
def zv (t s : Nat → Int) (L u v : Int) (k : Nat) : Int := L * s k + u + v * t k

/-- The moment of a flow about a line that does not pass between its nodes. -/
theorem moment (h : Dr n m t s lo hi c L) (hC : Circ n m lo hi σ)
    (hN : ∀ k, k < m → ∀ x, t (lo k) ≤ x → x < t (hi k) → N m t s lo hi c σ x (y t s lo hi c k x) ≤ 0) (u v : Int) {e : Int} (he : e = 1 ∨ e = -1)
    (hz : ∀ l, l < m → σ l ≠ 0 → 0 ≤ e * zv t s L u v (lo l) ∧ 0 ≤ e * zv t s L u v (hi l)) :
    0 ≤ e * sumN (fun l => σ l * ((t (hi l) - t (lo l)) * q3 (zv t s L u v (lo l)) (zv t s L u v (hi l)))) m := by
  obtain ⟨W0, hW0⟩ := bound1 t n
  have hT : ∀ v, v < n → -(W0 : Int) ≤ t v ∧ t v ≤ -(W0 : Int) + ((2 * W0 : Nat) : Int) := fun v hv => by have := hW0 v hv; omega
  have hZ : ∀ l x, Y t s lo hi c l x + u + v * x = (al t s lo hi c l + u) + (ka s lo hi c l + v) * x := fun l x => by unfold Y; grind
  have key : ∀ i : Nat, i < 2 * W0 → 0 ≤ sumN (fun l => if t (lo l) ≤ -(W0 : Int) + i ∧ -(W0 : Int) + i < t (hi l) then σ l * (e * q3 (pp (e * (Y t s lo hi c l (-(W0 : Int) + i) + u + v * (-(W0 : Int) + i)))) (pp (e * (Y t s lo hi c l (-(W0 : Int) + i + 1) + u + v * (-(W0 : Int) + i + 1))))) else 0) m := by
    intro i hiW
    refine strip_mono h hC (T0 := -(W0 : Int)) (fun l hl => (hT _ (h.nlo l hl)).1) (-(W0 : Int) + i) (by omega) _ ?_ (fun k hk hs => hN k hk _ hs.1 hs.2)
    intro k l hk hl hsk hsl hy
    generalize -(W0 : Int) + (i : Int) = x at *
    have hYY : Y t s lo hi c k x ≤ Y t s lo hi c l x ∧ Y t s lo hi c k (x + 1) ≤ Y t s lo hi c l (x + 1) := by
      by_cases hne : k = l
      · subst hne; exact ⟨Int.le_refl _, Int.le_refl _⟩
      · rcases dich h hk hl hne hsk.1 hsl.1 (by omega : x + 1 ≤ t (hi k)) (by omega : x + 1 ≤ t (hi l)) (by omega) with ⟨q1, q2, q3⟩ | ⟨q1, q2, q3⟩
        · have := q3 x (by omega) (by omega); omega
        · omega
    rcases he with rfl | rfl
    · simp only [Int.one_mul]
      exact q3_mono (pp_nn _) (pp_nn _) (pp_mono (by omega)) (pp_mono (by omega))
    · have := q3_mono (pp_nn (-1 * (Y t s lo hi c l x + u + v * x))) (pp_nn (-1 * (Y t s lo hi c l (x + 1) + u + v * (x + 1)))) (pp_mono (show -1 * (Y t s lo hi c l x + u + v * x) ≤ -1 * (Y t s lo hi c k x + u + v * x) by omega)) (pp_mono (show -1 * (Y t s lo hi c l (x + 1) + u + v * (x + 1)) ≤ -1 * (Y t s lo hi c k (x + 1) + u + v * (x + 1)) by omega))
      omega
  have tot := sumN_nonneg (n := 2 * W0) key
  rw [sumN_comm (fun i l => if t (lo l) ≤ -(W0 : Int) + i ∧ -(W0 : Int) + i < t (hi l) then σ l * (e * q3 (pp (e * (Y t s lo hi c l (-(W0 : Int) + i) + u + v * (-(W0 : Int) + i)))) (pp (e * (Y t s lo hi c l (-(W0 : Int) + i + 1) + u + v * (-(W0 : Int) + i + 1))))) else 0)] at tot
  refine Int.le_trans tot (Int.le_of_eq ?_)
  rw [← sumN_mul]
  refine sumN_congr fun l hl => ?_
  have hlt := h.lt l hl
  have b1 := hT _ (h.nlo l hl)
  have b2 := hT _ (h.nhi l hl)
  by_cases hs0 : σ l = 0
  · rw [hs0]
    simp only [Int.zero_mul, Int.mul_zero]
    exact sumN_zero fun i _ => by split <;> rfl
  obtain ⟨z1, z2⟩ := hz l hl hs0
  obtain ⟨w, hw⟩ : ∃ w : Nat, t (hi l) = t (lo l) + w := ⟨(t (hi l) - t (lo l)).toNat, by omega⟩
  have hs := sumN_part (fun x => σ l * (e * q3 (Y t s lo hi c l x + u + v * x) (Y t s lo hi c l (x + 1) + u + v * (x + 1)))) (-(W0 : Int)) (t (lo l)) w (2 * W0) b1.1 (by omega)
  have y1 := Y_lo h hl
  have y2 := Y_hi h hl
  have nn : ∀ x, t (lo l) ≤ x → x ≤ t (hi l) → 0 ≤ e * (Y t s lo hi c l x + u + v * x) := by
    intro x h1 h2
    have g1 : e * (Y t s lo hi c l (t (lo l)) + u + v * t (lo l)) = e * zv t s L u v (lo l) := by rw [y1]; rfl
    have g2 : e * (Y t s lo hi c l (t (hi l)) + u + v * t (hi l)) = e * zv t s L u v (hi l) := by rw [y2]; rfl
    have lin : ∀ x, e * (Y t s lo hi c l x + u + v * x) = e * (al t s lo hi c l + u) + e * (ka s lo hi c l + v) * x := fun x => by rw [hZ]; grind
    rw [lin] at g1 g2 ⊢
    exact affine_le (by rw [g1]; exact z1) (by rw [g2]; exact z2) h1 h2
  have e1 : sumN (fun i => if t (lo l) ≤ -(W0 : Int) + i ∧ -(W0 : Int) + i < t (hi l) then σ l * (e * q3 (pp (e * (Y t s lo hi c l (-(W0 : Int) + i) + u + v * (-(W0 : Int) + i)))) (pp (e * (Y t s lo hi c l (-(W0 : Int) + i + 1) + u + v * (-(W0 : Int) + i + 1))))) else 0) (2 * W0) =
      sumN (fun i => if t (lo l) ≤ -(W0 : Int) + i ∧ -(W0 : Int) + i < t (lo l) + w then σ l * (e * q3 (Y t s lo hi c l (-(W0 : Int) + i) + u + v * (-(W0 : Int) + i)) (Y t s lo hi c l (-(W0 : Int) + i + 1) + u + v * (-(W0 : Int) + i + 1))) else 0) (2 * W0) := by
    refine sumN_congr fun i _ => ?_
    rw [hw]
    by_cases g : t (lo l) ≤ -(W0 : Int) + i ∧ -(W0 : Int) + i < t (lo l) + w
    · rw [if_pos g, if_pos g, pp_self (nn _ g.1 (by omega)), pp_self (nn _ (by omega) (by omega))]
      rcases he with rfl | rfl
      · simp only [Int.one_mul]
      · simp only [Int.neg_mul, Int.one_mul, q3_neg]
    · rw [if_neg g, if_neg g]
  rw [e1, hs]
  have e2 : sumN (fun i => σ l * (e * q3 (Y t s lo hi c l (t (lo l) + i) + u + v * (t (lo l) + i)) (Y t s lo hi c l (t (lo l) + i + 1) + u + v * (t (lo l) + i + 1)))) w = σ l * (e * sumN (fun i => q3 ((al t s lo hi c l + u) + (ka s lo hi c l + v) * (t (lo l) + i)) ((al t s lo hi c l + u) + (ka s lo hi c l + v) * (t (lo l) + i + 1))) w) := by
    rw [← sumN_mul, ← sumN_mul]
    exact sumN_congr fun i _ => by rw [hZ, hZ]
  rw [e2, trap3, ← hZ, ← hw, ← hZ, y1, y2, hw]
  unfold zv
  rw [hw]
  grind
end
end Go.Proofs.Ytgmhmlhdiklaaaa.Geo
