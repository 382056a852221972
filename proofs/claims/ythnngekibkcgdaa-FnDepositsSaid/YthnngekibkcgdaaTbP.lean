/-
  What the taking back of a deposit answers. Plain.
-/
import Derived.Test.YthnngekibkcgdaaDepB
import Derived.Test.YthnngekibkcgdaaDepA
import Derived.Test.YthnngekibkcgdaaDelW
namespace Go.Proofs.Ythnngekibkcgdaa
open Go.RowKit
set_option linter.unusedVariables false

def tbX (n : Nat) (f : Nat → Nat → Int) (p : Int) : Int := fdx (fun i => decide (f i 0 = p)) n
def tbB (n : Nat) (f : Nat → Nat → Int) (p : Int) : Bool := decide (0 ≤ tbX n f p) && depB n f
def tbN (n : Nat) (f : Nat → Nat → Int) (p : Int) : Nat := if tbB n f p = true then n - 1 else n
def tbL (n : Nat) (f : Nat → Nat → Int) (p : Int) : List Int := if tbB n f p = true then cutD (tbX n f p).toNat (flat 3 n f) else flat 3 n f
theorem tbN_le {n : Nat} {f : Nat → Nat → Int} {p : Int} : tbN n f p ≤ n := by
  unfold tbN; split <;> omega
/-- the deposits of the first n that have another place, and how many. -/
def keepL (f : Nat → Nat → Int) (p : Int) : Nat → List Int
  | 0 => []
  | n + 1 => if f n 0 = p then keepL f p n else keepL f p n ++ [f n 0, f n 1, f n 2]
def keepN (f : Nat → Nat → Int) (p : Int) : Nat → Nat
  | 0 => 0
  | n + 1 => if f n 0 = p then keepN f p n else keepN f p n + 1
theorem keepN_le (f : Nat → Nat → Int) (p : Int) : ∀ n, keepN f p n ≤ n
  | 0 => Nat.le_refl _
  | n + 1 => by
    have := keepN_le f p n
    unfold keepN
    split <;> omega
theorem flat3_succ (n : Nat) (f : Nat → Nat → Int) : flat 3 (n + 1) f = flat 3 n f ++ [f n 0, f n 1, f n 2] := by
  unfold flat tab
  rw [show (n + 1) * 3 = n * 3 + 1 + 1 + 1 by omega, List.range_succ, List.range_succ, List.range_succ]
  simp only [List.map_append, List.map_cons, List.map_nil, List.append_assoc, List.cons_append, List.nil_append]
  rw [show n * 3 / 3 = n by omega, show n * 3 % 3 = 0 by omega, show (n * 3 + 1) / 3 = n by omega, show (n * 3 + 1) % 3 = 1 by omega, show (n * 3 + 1 + 1) / 3 = n by omega, show (n * 3 + 1 + 1) % 3 = 2 by omega]
theorem keep_all {f : Nat → Nat → Int} {p : Int} : ∀ {n : Nat}, (∀ i, i < n → f i 0 ≠ p) → keepL f p n = flat 3 n f ∧ keepN f p n = n
  | 0, _ => ⟨rfl, rfl⟩
  | n + 1, h => by
    obtain ⟨h1, h2⟩ := keep_all (n := n) fun i hi => h i (by omega)
    have h3 := h n (by omega)
    unfold keepL keepN
    rw [if_neg h3, if_neg h3, h1, h2, flat3_succ]
    exact ⟨rfl, rfl⟩
theorem keep_lt {f : Nat → Nat → Int} {p : Int} {k : Nat} (hk : f k 0 = p) : ∀ {n : Nat}, k < n → keepN f p n < n
  | 0, h => by omega
  | n + 1, h => by
    have := keepN_le f p n
    unfold keepN
    by_cases e : f n 0 = p
    · rw [if_pos e]; omega
    · have hkn : k < n := by
        by_cases q : k = n
        · subst q; exact absurd hk e
        · omega
      have := keep_lt hk hkn
      rw [if_neg e]; omega
theorem keep_one {f : Nat → Nat → Int} {p : Int} {k : Nat} (hk : f k 0 = p) : ∀ {n : Nat}, k < n → (∀ i, i < n → i ≠ k → f i 0 ≠ p) → keepL f p n = cutD k (flat 3 n f) ∧ keepN f p n = n - 1
  | 0, h, _ => by omega
  | n + 1, h, ho => by
    by_cases e : k = n
    · subst e
      obtain ⟨h1, h2⟩ := keep_all (f := f) (p := p) (n := k) fun i hi => ho i (by omega) (by omega)
      unfold keepL keepN
      rw [if_pos hk, if_pos hk, h1, h2, flat3_succ]
      refine ⟨?_, rfl⟩
      unfold cutD
      have := flat_len 3 k f
      rw [List.take_append_of_le_length (by omega), List.take_of_length_le (by omega), List.drop_eq_nil_of_le (by simp [this]), List.append_nil]
    · obtain ⟨h1, h2⟩ := keep_one hk (n := n) (by omega) fun i hi => ho i (by omega)
      have h3 := ho n (by omega) (fun q => e q.symm)
      unfold keepL keepN
      rw [if_neg h3, if_neg h3, h1, h2, flat3_succ]
      refine ⟨?_, by omega⟩
      unfold cutD
      have := flat_len 3 n f
      rw [List.take_append_of_le_length (by omega), List.drop_append_of_le_length (by omega), List.append_assoc]
theorem depB_apart {n : Nat} {f : Nat → Nat → Int} (h : depB n f = true) {i j : Nat} (hij : i < j) (hj : j < n) : f i 0 ≠ f j 0 := by
  intro e
  rw [depB_no hj (depAt_c hij e)] at h
  exact Bool.noConfusion h
/-- what the reference answers. -/
theorem tb_spec (n : Nat) (f : Nat → Nat → Int) (p : Int) : tbB n f p = (depB n f && !decide (keepN f p n = n)) ∧ (tbB n f p = true → tbL n f p = keepL f p n ∧ tbN n f p = keepN f p n) := by
  rcases fdx_cases (fun i => decide (f i 0 = p)) n with ⟨h1, h2⟩ | ⟨k, h1, h2, h3, h4⟩
  · have hx : tbX n f p = -1 := h2
    obtain ⟨e1, e2⟩ := keep_all (f := f) (p := p) (n := n) fun i hi => by simpa using h1 i hi
    unfold tbB
    rw [hx, e2]
    simp
  · have hx : tbX n f p = k := h4
    have hp : f k 0 = p := by simpa using h2
    have hlt := keep_lt hp h1
    have hd : decide (keepN f p n = n) = false := by simpa using (by omega : ¬ keepN f p n = n)
    unfold tbL tbN
    rw [show tbB n f p = depB n f by unfold tbB; rw [hx]; simp, hd]
    refine ⟨by simp, fun h => ?_⟩
    obtain ⟨e1, e2⟩ := keep_one hp h1 (fun i hi hik e => by
      rcases Nat.lt_or_gt_of_ne hik with q | q
      · exact depB_apart h q h1 (by rw [e, hp])
      · exact depB_apart h q hi (by rw [e, hp]))
    rw [if_pos h, if_pos h, e1, e2, hx]
    exact ⟨rfl, rfl⟩

end Go.Proofs.Ythnngekibkcgdaa
