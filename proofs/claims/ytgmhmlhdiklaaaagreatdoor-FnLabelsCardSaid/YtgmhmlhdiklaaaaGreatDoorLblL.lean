/-
  The law of numbers and labels, in plain numbers. Plain.
-/
import Derived.Test.YtgmhmlhdiklaaaaGreatDoorLabA
namespace Go.Proofs.YtgmhmlhdiklaaaaGreatDoor
open Go.RowKit Ring
set_option linter.unusedVariables false

/-- The keys of a list fall or stay. -/
def Falls (K : Nat → Int) (l : List Nat) : Prop := ∀ i j, i < j → j < l.length → K (l.getD j 0) ≤ K (l.getD i 0)
theorem ins1_falls {lt : Nat → Nat → Bool} {K : Nat → Int} (h1 : ∀ x y, lt x y = true → K y ≤ K x) (h0 : ∀ x y, lt x y = false → K x ≤ K y) {l : List Nat} (hl : Falls K l) (x : Nat) : Falls K (ins1 lt l x) := by
  have hJ := posOf_le (lt x) l l.length
  have hab := posOf_above (f := lt x) (l := l) l.length
  have hbe := posOf_below (f := lt x) (l := l) l.length
  unfold ins1
  generalize posOf (lt x) l l.length = J at hJ hab hbe
  have bel : ∀ i, i < J → K x ≤ K (l.getD i 0) := by
    intro i hi
    have h2 := h0 _ _ (hbe (by omega))
    by_cases e : i = J - 1
    · subst e; exact h2
    · exact Int.le_trans h2 (hl i (J - 1) (by omega) (by omega))
  intro i j hij hj
  rw [insAt_len] at hj
  rw [insAt_get hJ, insAt_get hJ]
  by_cases i1 : i < J
  · rw [if_pos i1]
    by_cases j1 : j < J
    · rw [if_pos j1]; exact hl i j hij (by omega)
    · rw [if_neg j1]
      by_cases j2 : j = J
      · rw [if_pos j2]; exact bel i i1
      · rw [if_neg j2]; exact hl i (j - 1) (by omega) (by omega)
  · rw [if_neg i1, if_neg (by omega : ¬ j < J), if_neg (by omega : ¬ j = J)]
    by_cases i2 : i = J
    · rw [if_pos i2]; exact h1 _ _ (hab (j - 1) (by omega) (by omega))
    · rw [if_neg i2]; exact hl (i - 1) (j - 1) (by omega) (by omega)
theorem foldl_falls {lt : Nat → Nat → Bool} {K : Nat → Int} (h1 : ∀ x y, lt x y = true → K y ≤ K x) (h0 : ∀ x y, lt x y = false → K x ≤ K y) : ∀ (l acc : List Nat), Falls K acc → Falls K (l.foldl (ins1 lt) acc)
  | [], acc, h => h
  | x :: l, acc, h => foldl_falls h1 h0 l _ (ins1_falls h1 h0 h x)
theorem srt_falls {lt : Nat → Nat → Bool} {K : Nat → Int} (h1 : ∀ x y, lt x y = true → K y ≤ K x) (h0 : ∀ x y, lt x y = false → K x ≤ K y) (l : List Nat) : Falls K (srt lt l) :=
  foldl_falls h1 h0 l [] (fun i j _ h => absurd h (by simp))

/-- Of two places the later one has the greater letter, or the same letter and the greater number. -/
theorem row_num_lt (T : Nat → Int) {i : Nat} : ∀ j, i < j → rowT T i < rowT T j ∨ (rowT T i = rowT T j ∧ numT T i < numT T j)
  | 0, h => by omega
  | j + 1, h => by
    by_cases e : T (j + 1) = T j
    · rw [rowT_same e, numT_same e]
      by_cases q : i = j
      · subst q; right; omega
      · have := row_num_lt T (i := i) j (by omega); omega
    · rw [rowT_next e]
      by_cases q : i = j
      · subst q; left; omega
      · have := row_num_lt T (i := i) j (by omega); omega
theorem decT_inj {a b : Nat} (ha : a ≤ 20) (hb : b ≤ 20) (h : decT a = decT b) : a = b := by
  have key : ∀ a : Fin 21, ∀ b : Fin 21, (if a.val < 10 then [UInt8.ofNat (48 + a.val)] else [UInt8.ofNat (48 + a.val / 10), UInt8.ofNat (48 + a.val % 10)]) = (if b.val < 10 then [UInt8.ofNat (48 + b.val)] else [UInt8.ofNat (48 + b.val / 10), UInt8.ofNat (48 + b.val % 10)]) → a = b := by decide +kernel
  have h1 := congrArg (fun s : ByteArray => s.data.toList) h
  unfold decT at h1
  have h2 := key ⟨a, by omega⟩ ⟨b, by omega⟩ (by
    simp only at h1 ⊢
    by_cases p : a < 10
    · rw [if_pos p] at h1 ⊢
      by_cases q : b < 10
      · rw [if_pos q] at h1 ⊢; exact h1
      · rw [if_neg q] at h1 ⊢; exact h1
    · rw [if_neg p] at h1 ⊢
      by_cases q : b < 10
      · rw [if_pos q] at h1 ⊢; exact h1
      · rw [if_neg q] at h1 ⊢; exact h1)
  exact congrArg Fin.val h2
theorem let_inj {r s a b : Nat} (hr : r ≤ 20) (hs : s ≤ 20) (ha : a ≤ 20) (hb : b ≤ 20) (h : letT r a = letT s b) : r = s ∧ a = b := by
  have h1 := congrArg (fun s : ByteArray => s.data.toList) h
  unfold letT at h1
  simp only [ByteArray.data_append, Array.toList_append, List.singleton_append, List.cons.injEq] at h1
  obtain ⟨e1, e2⟩ := h1
  have key : ∀ r : Fin 21, ∀ s : Fin 21, UInt8.ofNat (97 + r.val) = UInt8.ofNat (97 + s.val) → r = s := by decide +kernel
  refine ⟨congrArg Fin.val (key ⟨r, by omega⟩ ⟨s, by omega⟩ e1), decT_inj ha hb ?_⟩
  exact ByteArray.ext (Array.toList_inj.1 e2)
section
variable {n m : Nat} {P L : Nat → Nat → Int}
theorem panes_len_yes (hw : wholeB n P m L = true) : (panesT n P m L (facesV n P m L).length).length + 1 = (facesV n P m L).length := by
  obtain ⟨k, hk, ho⟩ := wall_in hw
  have : ∀ t, (panesT n P m L t).length = if k < t then t - 1 else t := by
    intro t
    induction t with
    | zero => rfl
    | succ t ih =>
      by_cases e : t = k
      · subst e
        rw [panesT_no (by rw [ho]), ih, if_neg (by omega), if_pos (by omega)]; omega
      · rw [panesT_yes (by rw [ho]; omega), List.length_append, ih]
        by_cases q : k < t
        · rw [if_pos q, if_pos (by omega)]; simp; omega
        · rw [if_neg q, if_neg (by omega)]; simp
  rw [this, if_pos hk]; omega
theorem readV_len_yes (hw : wholeB n P m L = true) : (readV n P m L).length + 1 = (facesV n P m L).length := by
  unfold readV; rw [srt_len]; exact panes_len_yes hw
theorem readV_nodup : (readV n P m L).Nodup := srt_nodup _ (List.Pairwise.filter _ List.nodup_range)
theorem readV_mem {f : Nat} : f ∈ readV n P m L ↔ f < (facesV n P m L).length ∧ ¬ (f : Int) = outerV n P m L := by
  unfold readV
  rw [srt_mem]
  simp [panesT]
theorem readV_at {k : Nat} (hk : k < (readV n P m L).length) : (readV n P m L).getD k 0 < (facesV n P m L).length ∧ ¬ (((readV n P m L).getD k 0 : Nat) : Int) = outerV n P m L := readV_mem.1 (getD_mem hk)
theorem readV_falls : Falls (fun f => hiN n P m L (f : Int) 1) (readV n P m L) := by
  refine srt_falls (fun x y h => ?_) (fun x y h => ?_) _
  · have h' : cmpR n P m L x y < 0 := of_decide_eq_true h
    by_cases e : hiN n P m L x 1 = hiN n P m L y 1
    · show hiN n P m L y 1 ≤ hiN n P m L x 1; omega
    · rw [cmpR_other e] at h'
      show hiN n P m L y 1 ≤ hiN n P m L x 1; omega
  · have h' : ¬ cmpR n P m L x y < 0 := of_decide_eq_false h
    by_cases e : hiN n P m L x 1 = hiN n P m L y 1
    · show hiN n P m L x 1 ≤ hiN n P m L y 1; omega
    · rw [cmpR_other e] at h'
      show hiN n P m L x 1 ≤ hiN n P m L y 1; omega
theorem ix_nums {l : List Nat} {k : Nat} (hk : k < l.length) : ix (nums l) k = ((l.getD k 0 : Nat) : Int) := by
  rw [ix_get (by simp [nums]; exact hk), List.getD_eq_getElem?_getD, List.getElem?_eq_getElem hk]
  simp [nums]
theorem num_at {k : Nat} (hk : k < (readV n P m L).length) : numV n P m L (((readV n P m L).getD k 0 : Nat) : Int) = (k : Int) + 1 := by
  unfold numV
  rw [fdx_at (j := k) hk]
  · rw [ix_nums hk]; exact decide_eq_true rfl
  · intro i hi
    rw [ix_nums (by omega)]
    refine decide_eq_false fun e => ?_
    have := nodup_get readV_nodup hk (show i < _ by omega) (by omega)
    omega
theorem num_outer : numV n P m L (outerV n P m L) = 0 := by
  unfold numV
  rw [fdx_none]
  · rfl
  · intro i hi
    rw [ix_nums hi]
    exact decide_eq_false fun e => (readV_at hi).2 e.symm
theorem at_num {k : Nat} (hk : k < (readV n P m L).length) : atV n P m L ((k : Int) + 1) = (((readV n P m L).getD k 0 : Nat) : Int) := by
  unfold atV
  rw [if_pos (inB_yes (by omega)), show ((k : Int) + 1 - 1).toNat = k by omega, ix_nums hk]
theorem at_no {x : Int} (h : x < 1 ∨ ((readV n P m L).length : Int) < x) : atV n P m L x = -1 := by
  unfold atV
  rw [if_neg (by rw [inB_no (by omega)]; simp)]
theorem labs_at {k : Nat} (hk : k < (readV n P m L).length) : (labsV n P m L).getD k ⟨#[]⟩ = letT (rowT (topT n P m L) k) (numT (topT n P m L) k) := labsT_get _ hk
theorem labs_ne {i k : Nat} (hik : i < k) (hk : k < (readV n P m L).length) : ¬ (labsV n P m L).getD k ⟨#[]⟩ = (labsV n P m L).getD i ⟨#[]⟩ := by
  have hl := readV_len (n := n) (m := m) (P := P) (L := L)
  rw [labs_at hk, labs_at (by omega)]
  intro e
  have r1 := rowT_le (topT n P m L) k
  have r2 := rowT_le (topT n P m L) i
  have n1 := numT_le (topT n P m L) k
  have n2 := numT_le (topT n P m L) i
  obtain ⟨e1, e2⟩ := let_inj (by omega) (by omega) (by omega) (by omega) e
  have := row_num_lt (topT n P m L) k hik
  omega
theorem face_of_label {k : Nat} (hk : k < (readV n P m L).length) : faceL n P m L ((labsV n P m L).getD k ⟨#[]⟩) = (((readV n P m L).getD k 0 : Nat) : Int) := by
  unfold faceL
  rw [fdx_at (j := k) hk (decide_eq_true rfl) (fun i hi => decide_eq_false (labs_ne hi hk))]
  exact at_num hk
theorem face_of_none : faceL n P m L ⟨#[]⟩ = -1 := by
  unfold faceL
  rw [fdx_none fun i hi => decide_eq_false fun e => labs_full hi e.symm]
  exact at_no (by omega)
theorem label_size {k : Nat} (hk : k < (readV n P m L).length) : 2 ≤ ((labsV n P m L).getD k ⟨#[]⟩).size ∧ ((labsV n P m L).getD k ⟨#[]⟩).size ≤ 3 := by
  rw [labs_at hk]
  unfold letT
  rw [ByteArray.size_append, letter_size]
  have h1 := decT_size (numT (topT n P m L) k)
  have h2 : 1 ≤ (decT (numT (topT n P m L) k)).size := by
    unfold decT
    split <;> simp [ByteArray.size]
  omega
/-- All of the law of labels. -/
theorem labels_law (hw : wholeB n P m L = true) : ∃ o : Nat, o < (facesV n P m L).length ∧ outerV n P m L = o ∧ (readV n P m L).length + 1 = (facesV n P m L).length ∧ (facesV n P m L).length ≤ 20 ∧
    (∀ k, k < (readV n P m L).length → ∃ (f : Nat) (s : ByteArray), (readV n P m L).getD k 0 = f ∧ f < (facesV n P m L).length ∧ ¬ (f : Int) = o ∧ numV n P m L f = (k : Int) + 1 ∧ atV n P m L ((k : Int) + 1) = f ∧ labelV n P m L f = s ∧ faceL n P m L s = f ∧ 2 ≤ s.size ∧ s.size ≤ 3) ∧
    (∀ k, k + 1 < (readV n P m L).length → hiN n P m L (((readV n P m L).getD (k + 1) 0 : Nat) : Int) 1 ≤ hiN n P m L (((readV n P m L).getD k 0 : Nat) : Int) 1) ∧
    numV n P m L o = 0 ∧ labelV n P m L o = ⟨#[]⟩ ∧ atV n P m L ((facesV n P m L).length : Nat) = -1 ∧ faceL n P m L ⟨#[]⟩ = -1 := by
  obtain ⟨o, ho, eo⟩ := wall_in hw
  have hl := readV_len_yes hw
  have hN := readV_len (n := n) (m := m) (P := P) (L := L)
  have hF := faces_len (n := n) (m := m) (P := P) (L := L)
  refine ⟨o, ho, eo, hl, by omega, fun k hk => ?_, fun k hk => ?_, ?_, ?_, ?_, face_of_none⟩
  · have h1 := readV_at hk
    rw [eo] at h1
    have h2 := label_size hk
    exact ⟨_, _, rfl, h1.1, h1.2, num_at hk, at_num hk, labelV_yes (num_at hk), face_of_label hk, h2.1, h2.2⟩
  · exact readV_falls k (k + 1) (by omega) hk
  · rw [← eo]; exact num_outer
  · rw [← eo]; exact labelV_no num_outer
  · exact at_no (by omega)
end
end Go.Proofs.YtgmhmlhdiklaaaaGreatDoor
