/-
  Plain facts on packed crates: what the law on crates asks. Plain.
-/
import Derived.Test.YthnngekibkcgdaaPcV
import Derived.Test.YthnngekibkcgdaaPkV
import Derived.Test.YthnngekibkcgdaaCrateA
namespace Go.Proofs.Ythnngekibkcgdaa
open Go.RowKit Ring
set_option linter.unusedVariables false

/-- The rows below m, one behind the other. -/
def flatR {α : Type} (L : Nat → List α) : Nat → List α
  | 0 => []
  | m + 1 => flatR L m ++ L m
theorem flatR_congr {α : Type} {L L' : Nat → List α} : ∀ {m : Nat}, (∀ j, j < m → L j = L' j) → flatR L m = flatR L' m
  | 0, _ => rfl
  | m + 1, h => by unfold flatR; rw [flatR_congr fun j hj => h j (by omega), h m (by omega)]
theorem flatR_upd {α : Type} {L : Nat → List α} {t : Nat} {k : α} : ∀ {m : Nat}, t < m → (flatR (upd L t (L t ++ [k])) m).Perm (flatR L m ++ [k])
  | 0, h => by omega
  | m + 1, h => by
    unfold flatR
    by_cases e : t = m
    · subst e
      rw [upd_at, flatR_congr (L' := L) fun j hj => upd_ne (by omega), List.append_assoc]
    · rw [upd_ne (Ne.symm e)]
      refine ((flatR_upd (m := m) (by omega)).append_right _).trans ?_
      rw [List.append_assoc, List.append_assoc]
      exact List.Perm.append_left _ List.perm_append_comm
section
variable {f : Nat → Nat → Int} {lim : Int} {ord : List Nat}
theorem take_succ' {l : List Nat} {i : Nat} (h : i < l.length) : l.take (i + 1) = l.take i ++ [l.getD i 0] := by
  rw [getD_lt h, List.take_succ_eq_append_getElem h]
theorem pcs_perm : ∀ i, i ≤ ord.length → (flatR (pcs f lim ord i).2 (pcs f lim ord i).1).Perm (ord.take i)
  | 0, _ => by simp [pcs, flatR]
  | i + 1, hi => by
    have ih := pcs_perm i (by omega)
    have hle := fstP_le (fun j => decide (sumF f ((pcs f lim ord i).2 j) + f (ord.getD i 0) 0 ≤ lim)) (pcs f lim ord i).1
    have hout := pcs_out (f := f) (lim := lim) (ord := ord) i
    rw [pcs_succ i _ rfl, take_succ' (by omega)]
    simp only
    generalize fstP (fun j => decide (sumF f ((pcs f lim ord i).2 j) + f (ord.getD i 0) 0 ≤ lim)) (pcs f lim ord i).1 = t at *
    by_cases e : t < (pcs f lim ord i).1
    · rw [Nat.max_eq_left (by omega)]
      exact (flatR_upd e).trans (ih.append_right _)
    · have e' : t = (pcs f lim ord i).1 := by omega
      rw [Nat.max_eq_right (by omega)]
      refine (flatR_upd (Nat.lt_succ_self t)).trans ?_
      unfold flatR
      rw [hout t (by omega), List.append_nil, e']
      exact ih.append_right _
theorem pcs_ne : ∀ i j, j < (pcs f lim ord i).1 → (pcs f lim ord i).2 j ≠ []
  | 0, j, h => by simp [pcs] at h
  | i + 1, j, h => by
    have hle := fstP_le (fun j => decide (sumF f ((pcs f lim ord i).2 j) + f (ord.getD i 0) 0 ≤ lim)) (pcs f lim ord i).1
    rw [pcs_succ i _ rfl] at h ⊢
    simp only at h ⊢
    generalize fstP (fun j => decide (sumF f ((pcs f lim ord i).2 j) + f (ord.getD i 0) 0 ≤ lim)) (pcs f lim ord i).1 = t at *
    by_cases e : j = t
    · subst e; rw [upd_at]; simp
    · rw [upd_ne e]; exact pcs_ne i j (by omega)
/-- Of two crates the sums exceed the limit: else the later one's first pane lay in the earlier one. -/
theorem pcs_two (hf : ∀ x ∈ ord, 0 ≤ f x 0 ∧ f x 0 ≤ lim) : ∀ i, i ≤ ord.length → ∀ a b, a < b → b < (pcs f lim ord i).1 → lim < sumF f ((pcs f lim ord i).2 a) + sumF f ((pcs f lim ord i).2 b)
  | 0, _, a, b, _, h => by simp [pcs] at h
  | i + 1, hi, a, b, hab, hb => by
    have ih := pcs_two hf i (by omega) a b hab
    have hk := hf (ord.getD i 0) (by rw [getD_lt (by omega)]; exact List.getElem_mem _)
    have hout := pcs_out (f := f) (lim := lim) (ord := ord) i
    rcases fdx_cases (fun j => decide (sumF f ((pcs f lim ord i).2 j) + f (ord.getD i 0) 0 ≤ lim)) (pcs f lim ord i).1 with ⟨q1, q2⟩ | ⟨t, q1, q2, q3, q4⟩
    · rw [pcs_succ i _ (fstP_none q1)] at hb ⊢
      simp only at hb ⊢
      by_cases e : b = (pcs f lim ord i).1
      · subst e
        have h1 := of_decide_eq_false (q1 a hab)
        rw [upd_at, upd_ne (by omega), hout _ (Nat.le_refl _), show sumF f ([] ++ [ord.getD i 0]) = f (ord.getD i 0) 0 from by simp [sumF]]
        omega
      · rw [upd_ne e, upd_ne (by omega)]
        exact ih (by omega)
    · rw [pcs_succ i _ (fstP_at q1 q2 q3)] at hb ⊢
      simp only at hb ⊢
      have ihb := ih (by omega)
      by_cases ea : a = t
      · subst ea
        rw [upd_at, upd_ne (by omega), sumF_snoc]; omega
      · rw [upd_ne ea]
        by_cases eb : b = t
        · subst eb; rw [upd_at, sumF_snoc]; omega
        · rw [upd_ne eb]; exact ihb
end
theorem sum_permN {xs ys : List Nat} (h : xs.Perm ys) (g : Nat → Int) : (xs.map g).sum = (ys.map g).sum := sum_perm (h.map g)
theorem flat_sumF (f : Nat → Nat → Int) (L : Nat → List Nat) : ∀ m, psum (fun j => sumF f (L j)) m = sumF f (flatR L m)
  | 0 => by simp [psum, flatR, sumF]
  | m + 1 => by
    have ih := flat_sumF f L m
    show psum (fun j => sumF f (L j)) m + sumF f (L m) = sumF f (flatR L m ++ L m)
    rw [ih]
    unfold sumF
    rw [List.map_append, List.sum_append]
theorem range_sum (g : Nat → Int) : ∀ n, ((List.range n).map g).sum = psum g n
  | 0 => rfl
  | n + 1 => by rw [List.range_succ, List.map_append, List.sum_append, range_sum g n]; simp [psum]
section
variable {n : Nat} {f : Nat → Nat → Int} {lim : Int}
/-- The rows of the packing. -/
abbrev pR (n : Nat) (f : Nat → Nat → Int) (lim : Int) : Nat → List Nat := (pcs f lim (ordN f n) n).2
abbrev pM (n : Nat) (f : Nat → Nat → Int) (lim : Int) : Nat := (pcs f lim (ordN f n) n).1
theorem p_perm : (flatR (pR n f lim) (pM n f lim)).Perm (List.range n) := by
  have h := pcs_perm (f := f) (lim := lim) (ord := ordN f n) n (by rw [ordN_len]; exact Nat.le_refl _)
  rw [List.take_of_length_le (by rw [ordN_len]; exact Nat.le_refl _)] at h
  exact h.trans (srt_perm _ _)
theorem p_sum : psum (fun j => sumF f (pR n f lim j)) (pM n f lim) = psum (fun j => f j 0) n := by
  rw [flat_sumF]
  unfold sumF
  rw [sum_permN p_perm, range_sum]
theorem p_rng (h0 : 0 ≤ lim) (h : allIn n f 0 lim = true) (j : Nat) : 0 ≤ sumF f (pR n f lim j) ∧ sumF f (pR n f lim j) ≤ lim :=
  pcs_sum h0 (fun x hx => allIn_get h (ordN_mem.1 hx)) n (by rw [ordN_len]; exact Nat.le_refl _) j
theorem p_two (h : allIn n f 0 lim = true) {a b : Nat} (hab : a < b) (hb : b < pM n f lim) : lim < sumF f (pR n f lim a) + sumF f (pR n f lim b) :=
  pcs_two (fun x hx => allIn_get h (ordN_mem.1 hx)) n (by rw [ordN_len]; exact Nat.le_refl _) a b hab hb
theorem p_zero : n = 0 ↔ pM n f lim = 0 := by
  constructor
  · intro h
    have := pcs_le (f := f) (lim := lim) (ord := ordN f n) n
    show (pcs f lim (ordN f n) n).1 = 0
    omega
  · intro h
    have := (p_perm (n := n) (f := f) (lim := lim)).length_eq
    rw [h, List.length_range] at this
    simpa [flatR] using this.symm
theorem p_nodup (j : Nat) : (pR n f lim j).Nodup := pcs_nodup (ordN_nodup f n) n (by rw [ordN_len]; exact Nat.le_refl _) j
theorem p_lt (j : Nat) : ∀ x ∈ pR n f lim j, x < n := fun x hx => by
  obtain ⟨q, h1, h2⟩ := pcs_mem n j x hx
  rw [← h2]
  exact ordN_at h1
end
/-- Pairs. -/
theorem pair_sum {s : Nat → Int} {lim : Int} : ∀ k, (∀ i, i < k → lim + 1 ≤ s (2 * i) + s (2 * i + 1)) → (k : Int) * (lim + 1) ≤ psum s (2 * k)
  | 0, _ => by simp [psum]
  | k + 1, h => by
    have ih := pair_sum k fun i hi => h i (by omega)
    have := h k (by omega)
    rw [show 2 * (k + 1) = 2 * k + 1 + 1 by omega]
    show ((k + 1 : Nat) : Int) * (lim + 1) ≤ psum s (2 * k) + s (2 * k) + s (2 * k + 1)
    rw [Int.natCast_add, Int.add_mul]
    omega
theorem psum_up {s : Nat → Int} (h : ∀ j, 0 ≤ s j) : ∀ {a b : Nat}, a ≤ b → psum s a ≤ psum s b
  | a, 0, hab => by rw [show a = 0 by omega]; exact Int.le_refl _
  | a, b + 1, hab => by
    by_cases e : a = b + 1
    · rw [e]; exact Int.le_refl _
    · have := psum_up h (a := a) (b := b) (by omega)
      have := h b
      show _ ≤ psum s b + s b
      omega
/-- What holds of the number of crates and its bound. -/
theorem bound_facts {N : Nat} {s : Nat → Int} {lim S : Int} (hl : 1 ≤ lim) (hs : ∀ j, 0 ≤ s j ∧ s j ≤ lim) (h2 : ∀ a b, a < b → b < N → lim < s a + s b) (hS : psum s N = S) :
    S ≤ (S + lim - 1) / lim * lim ∧ ((S + lim - 1) / lim - 1) * lim < max 1 S ∧ (S + lim - 1) / lim ≤ N ∧ (N : Int) ≤ max 1 (2 * ((S + lim - 1) / lim)) := by
  have h0 : 0 ≤ S := by rw [← hS]; have := psum_up (s := s) (fun j => (hs j).1) (Nat.zero_le N); simpa [psum] using this
  have hup : S ≤ N * lim := by
    rw [← hS]
    have := (psum_bd (g := s) (a := 0) (b := lim) hs N).2
    rw [Int.mul_comm]; exact this
  obtain ⟨B, hB⟩ : ∃ B, B = (S + lim - 1) / lim := ⟨_, rfl⟩
  rw [← hB]
  have e1 : B * lim ≤ S + lim - 1 := by rw [hB]; exact Int.ediv_mul_le _ (by omega)
  have e2 : S + lim - 1 < (B + 1) * lim := by rw [hB]; exact Int.lt_ediv_add_one_mul_self _ (by omega)
  rw [Int.add_mul] at e2
  refine ⟨by omega, ?_, ?_, ?_⟩
  · rw [Int.sub_mul]; omega
  · rcases Int.lt_or_le (N : Int) B with q | q
    · exfalso
      have : ((N : Int) + 1) * lim ≤ B * lim := Int.mul_le_mul_of_nonneg_right (by omega) (by omega)
      rw [Int.add_mul] at this
      omega
    · exact q
  · by_cases hN : N ≤ 1
    · omega
    · have hp := pair_sum (s := s) (lim := lim) (N / 2) fun i hi => by have := h2 (2 * i) (2 * i + 1) (by omega) (by omega); omega
      have hm := psum_up (s := s) (fun j => (hs j).1) (a := 2 * (N / 2)) (b := N) (by omega)
      have hk : ((N / 2 : Nat) : Int) * (lim + 1) = ((N / 2 : Nat) : Int) * lim + ((N / 2 : Nat) : Int) := by rw [Int.mul_add]; omega
      have hb : ((N / 2 : Nat) : Int) < B := by
        rcases Int.lt_or_le ((N / 2 : Nat) : Int) B with q | q
        · exact q
        · exfalso
          have : B * lim ≤ ((N / 2 : Nat) : Int) * lim := Int.mul_le_mul_of_nonneg_right q (by omega)
          omega
      omega
section
variable {n : Nat} {f : Nat → Nat → Int} {lim : Int}
theorem rowS_all {acc l : List Int} (h : (acc ++ l).Nodup) : ∀ i, i ≤ l.length → rowS acc l i = some (acc ++ l.take i)
  | 0, _ => by simp [rowS]
  | i + 1, hi => by
    have ih := rowS_all h i (by omega)
    have hx : ix l i = l[i] := ix_get (by omega)
    rw [rowS_no ih ?_]
    · rw [List.take_succ_eq_append_getElem (by omega : i < l.length), hx, List.append_assoc]
    · rw [hx]
      intro hm
      have hd : (acc ++ l.take i ++ l.drop i).Nodup := by rw [List.append_assoc, List.take_append_drop]; exact h
      have := (List.nodup_append.1 hd).2.2 _ hm l[i] (List.mem_iff_getElem.2 ⟨0, by simp; omega, by simp⟩)
      exact this rfl
theorem allS_all {l : Nat → List Int} {z : Nat → Int} {N : Nat} (hok : ∀ k, k < N → crOk n f (l k).length (fun i _ => ix (l k) i) (z k) = true) (hd : (flatR l N).Nodup) : ∀ k, k ≤ N → allS n f l z k = some (flatR l k)
  | 0, _ => rfl
  | k + 1, hk => by
    have ih := allS_all hok hd k (by omega)
    have hsub : (flatR l k ++ l k).Nodup := by
      have key : ∀ m, k + 1 ≤ m → m ≤ N → ∃ r, flatR l m = flatR l k ++ l k ++ r := by
        intro m
        induction m with
        | zero => intro h; omega
        | succ m ihm =>
          intro h1 h2
          by_cases e : m = k
          · subst e; exact ⟨[], by rw [List.append_nil]; rfl⟩
          · obtain ⟨r, hr⟩ := ihm (by omega) (by omega)
            exact ⟨r ++ l m, by show flatR l m ++ l m = _; rw [hr, List.append_assoc]⟩
      obtain ⟨r, hr⟩ := key N hk (Nat.le_refl _)
      rw [hr] at hd
      exact (List.nodup_append.1 hd).1
    rw [allS_yes ih (hok k (by omega)), rowS_all hsub _ (Nat.le_refl _), List.take_of_length_le (Nat.le_refl _)]
    rfl
theorem flatR_srt (L : Nat → List Nat) : ∀ m, (flatR (fun j => srtN (L j)) m).Perm (nums (flatR L m))
  | 0 => by simp [flatR, nums]
  | m + 1 => by
    unfold flatR
    rw [show nums (flatR L m ++ L m) = nums (flatR L m) ++ nums (L m) from by unfold nums; rw [List.map_append]]
    exact (flatR_srt L m).append (List.mergeSort_perm _ _)
theorem p_ok (h1 : allIn n f 0 10000 = true) (h2 : inB lim 0 100000 = true) (h3 : allIn n f 0 lim = true) (k : Nat) : crOk n f (srtN (pR n f lim k)).length (fun i _ => ix (srtN (pR n f lim k)) i) lim = true := by
  unfold crOk
  rw [crateW_srtN h1 h2 (p_nodup k) (p_lt k)]
  have := p_rng (inB_of' h2).1 h3 k
  unfold inB
  simp
  exact this
theorem p_packed (h1 : allIn n f 0 10000 = true) (h2 : inB lim 0 100000 = true) (h3 : allIn n f 0 lim = true) : pkB n f (pM n f lim) (fun j => srtN (pR n f lim j)) (fun _ => lim) = true := by
  have hp := flatR_srt (pR n f lim) (pM n f lim)
  have hd : (flatR (fun j => srtN (pR n f lim j)) (pM n f lim)).Nodup := by
    rw [hp.nodup_iff]
    exact nums_nodup ((p_perm (n := n) (f := f) (lim := lim)).nodup_iff.2 List.nodup_range)
  rw [pkB_yes (allS_all (fun k _ => p_ok h1 h2 h3 k) hd _ (Nat.le_refl _))]
  have := hp.length_eq
  rw [nums_len, (p_perm (n := n) (f := f) (lim := lim)).length_eq, List.length_range] at this
  simpa using this
end

end Go.Proofs.Ythnngekibkcgdaa
