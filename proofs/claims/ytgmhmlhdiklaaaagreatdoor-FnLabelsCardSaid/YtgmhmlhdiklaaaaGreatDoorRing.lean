/-
  Insertion into a sorted list, the one before in a ring, and walks along a bijection of finitely many darts: they close, and cut the darts into rounds. Plain lists and numbers.
-/
namespace Go.Proofs.YtgmhmlhdiklaaaaGreatDoor.Ring

/-- Where a value is put in: behind the last of the first j that it does not go before. -/
def posOf (lt : Nat → Bool) (l : List Nat) : Nat → Nat
  | 0 => 0
  | j + 1 => if lt (l.getD j 0) = true then posOf lt l j else j + 1
def insAt (l : List Nat) (J x : Nat) : List Nat := l.take J ++ x :: l.drop J
def ins1 (lt : Nat → Nat → Bool) (l : List Nat) (x : Nat) : List Nat := insAt l (posOf (lt x) l l.length) x
def srt (lt : Nat → Nat → Bool) (l : List Nat) : List Nat := l.foldl (ins1 lt) []

theorem posOf_le (lt : Nat → Bool) (l : List Nat) : ∀ j, posOf lt l j ≤ j
  | 0 => Nat.le_refl 0
  | j + 1 => by
    have := posOf_le lt l j
    show (if lt (l.getD j 0) = true then posOf lt l j else j + 1) ≤ j + 1
    split <;> omega
theorem posOf_yes {lt : Nat → Bool} {l : List Nat} {j : Nat} (h : lt (l.getD j 0) = true) : posOf lt l (j + 1) = posOf lt l j := if_pos h
theorem posOf_no {lt : Nat → Bool} {l : List Nat} {j : Nat} (h : lt (l.getD j 0) = false) : posOf lt l (j + 1) = j + 1 := if_neg (by rw [h]; simp)
theorem insAt_perm (l : List Nat) (J x : Nat) : (insAt l J x).Perm (x :: l) := by
  unfold insAt
  refine List.perm_middle.trans (List.Perm.cons x ?_)
  rw [List.take_append_drop]
theorem foldl_perm (lt : Nat → Nat → Bool) : ∀ (l acc : List Nat), (l.foldl (ins1 lt) acc).Perm (acc ++ l)
  | [], acc => by simp
  | x :: l, acc => by
    refine (foldl_perm lt l (ins1 lt acc x)).trans ?_
    have h1 : (ins1 lt acc x).Perm (x :: acc) := insAt_perm acc _ x
    refine (List.Perm.append_right l h1).trans ?_
    exact List.perm_middle.symm
theorem srt_perm (lt : Nat → Nat → Bool) (l : List Nat) : (srt lt l).Perm l := by simpa [srt] using foldl_perm lt l []
theorem srt_snoc (lt : Nat → Nat → Bool) (l : List Nat) (x : Nat) : srt lt (l ++ [x]) = ins1 lt (srt lt l) x := by simp [srt, List.foldl_append]
theorem srt_nil (lt : Nat → Nat → Bool) : srt lt [] = [] := rfl
theorem srt_one (lt : Nat → Nat → Bool) (x : Nat) : srt lt [x] = [x] := rfl
theorem srt_len (lt : Nat → Nat → Bool) (l : List Nat) : (srt lt l).length = l.length := (srt_perm lt l).length_eq
theorem srt_mem (lt : Nat → Nat → Bool) (l : List Nat) (x : Nat) : x ∈ srt lt l ↔ x ∈ l := (srt_perm lt l).mem_iff
theorem srt_nodup (lt : Nat → Nat → Bool) {l : List Nat} (h : l.Nodup) : (srt lt l).Nodup := (srt_perm lt l).nodup_iff.2 h
theorem insAt_len (l : List Nat) (J x : Nat) : (insAt l J x).length = l.length + 1 := by simpa using (insAt_perm l J x).length_eq
theorem ins1_len (lt : Nat → Nat → Bool) (l : List Nat) (x : Nat) : (ins1 lt l x).length = l.length + 1 := insAt_len l _ x
theorem insAt_get {l : List Nat} {J x : Nat} (hJ : J ≤ l.length) (q : Nat) : (insAt l J x).getD q 0 = if q < J then l.getD q 0 else if q = J then x else l.getD (q - 1) 0 := by
  unfold insAt
  rw [List.getD_eq_getElem?_getD, List.getElem?_append]
  have hl : (l.take J).length = J := by simp; omega
  rw [hl]
  by_cases h : q < J
  · rw [if_pos h, if_pos h, List.getElem?_take, if_pos h, List.getD_eq_getElem?_getD]
  · rw [if_neg h, if_neg h]
    by_cases e : q = J
    · subst e; simp
    · rw [if_neg e]
      obtain ⟨r, rfl⟩ : ∃ r, q = J + (r + 1) := ⟨q - J - 1, by omega⟩
      rw [show J + (r + 1) - J = r + 1 by omega, List.getElem?_cons_succ, List.getElem?_drop, List.getD_eq_getElem?_getD, show J + (r + 1) - 1 = J + r by omega]

/-- The place of a value in a list: that of its first occurrence. -/
def idx (l : List Nat) (x : Nat) : Nat := l.findIdx (fun y => y == x)
theorem idx_lt {l : List Nat} {x : Nat} (h : x ∈ l) : idx l x < l.length := List.findIdx_lt_length_of_exists ⟨x, h, by simp⟩
theorem idx_get {l : List Nat} {x : Nat} (h : x ∈ l) : l.getD (idx l x) 0 = x := by
  have hl := idx_lt h
  have h2 := List.findIdx_getElem (xs := l) (p := fun y => y == x) (w := hl)
  rw [List.getD_eq_getElem?_getD, List.getElem?_eq_getElem hl, Option.getD_some]
  exact of_decide_eq_true h2
theorem idx_first {l : List Nat} {x j : Nat} (h : j < idx l x) : l.getD j 0 ≠ x := by
  have hl : j < l.length := Nat.lt_of_lt_of_le h List.findIdx_le_length
  have := List.not_of_lt_findIdx (p := fun y => y == x) (xs := l) h
  rw [List.getD_eq_getElem?_getD, List.getElem?_eq_getElem hl]
  simpa using this
theorem idx_eq {l : List Nat} {x j : Nat} (hj : j < l.length) (h : l.getD j 0 = x) (hf : ∀ i, i < j → l.getD i 0 ≠ x) : idx l x = j := by
  have hm : x ∈ l := by
    rw [List.getD_eq_getElem?_getD, List.getElem?_eq_getElem hj] at h
    rw [← h]; exact List.getElem_mem hj
  rcases Nat.lt_trichotomy (idx l x) j with g | g | g
  · exact absurd (idx_get hm) (hf _ g)
  · exact g
  · exact absurd h (idx_first g)

/-- The one before x in the ring l. -/
def prd (l : List Nat) (x : Nat) : Nat := l.getD ((idx l x + l.length - 1) % l.length) 0
theorem prd_mem {l : List Nat} {x : Nat} (h : x ∈ l) : prd l x ∈ l := by
  have hl := idx_lt h
  have h2 : (idx l x + l.length - 1) % l.length < l.length := Nat.mod_lt _ (by omega)
  unfold prd
  rw [List.getD_eq_getElem?_getD, List.getElem?_eq_getElem h2]
  exact List.getElem_mem h2
theorem nodup_get {l : List Nat} (hn : l.Nodup) {i j : Nat} (hi : i < l.length) (hj : j < l.length) (h : l.getD i 0 = l.getD j 0) : i = j := by
  rw [List.getD_eq_getElem?_getD, List.getElem?_eq_getElem hi, List.getD_eq_getElem?_getD, List.getElem?_eq_getElem hj] at h
  rw [List.nodup_iff_pairwise_ne, List.pairwise_iff_getElem] at hn
  rcases Nat.lt_trichotomy i j with g | g | g
  · exact absurd (by simpa using h) (hn i j hi hj g)
  · exact g
  · exact absurd (by simpa using h.symm) (hn j i hj hi g)
theorem prd_inj {l : List Nat} (hn : l.Nodup) {x y : Nat} (hx : x ∈ l) (hy : y ∈ l) (h : prd l x = prd l y) : x = y := by
  have h1 := idx_lt hx
  have h2 := idx_lt hy
  have e := nodup_get hn (Nat.mod_lt _ (by omega)) (Nat.mod_lt _ (by omega)) h
  have e2 : idx l x = idx l y := by
    have c1 : (idx l x + l.length - 1) % l.length = if idx l x = 0 then l.length - 1 else idx l x - 1 := by
      split
      · rename_i q; rw [q, Nat.zero_add, Nat.mod_eq_of_lt (by omega)]
      · rw [show idx l x + l.length - 1 = idx l x - 1 + l.length by omega, Nat.add_mod_right, Nat.mod_eq_of_lt (by omega)]
    have c2 : (idx l y + l.length - 1) % l.length = if idx l y = 0 then l.length - 1 else idx l y - 1 := by
      split
      · rename_i q; rw [q, Nat.zero_add, Nat.mod_eq_of_lt (by omega)]
      · rw [show idx l y + l.length - 1 = idx l y - 1 + l.length by omega, Nat.add_mod_right, Nat.mod_eq_of_lt (by omega)]
    rw [c1, c2] at e
    split at e <;> split at e <;> omega
  rw [← idx_get hx, ← idx_get hy, e2]

theorem nodup_len : ∀ (M : Nat) (l : List Nat), l.Nodup → (∀ x ∈ l, x < M) → l.length ≤ M
  | 0, l, _, h => by
    cases l with
    | nil => simp
    | cons x l => exact absurd (h x (by simp)) (by omega)
  | M + 1, l, hn, h => by
    by_cases hm : M ∈ l
    · have h1 := nodup_len M (l.erase M) (hn.erase M) (fun x hx => by
        have h2 := (List.Nodup.mem_erase_iff hn).1 hx
        have := h x h2.2
        have := h2.1
        omega)
      rw [List.length_erase_of_mem hm] at h1
      omega
    · have h1 := nodup_len M l hn (fun x hx => by
        have := h x hx
        have : x ≠ M := by rintro rfl; exact hm hx
        omega)
      omega

def it (nx : Nat → Nat) (d : Nat) : Nat → Nat
  | 0 => d
  | t + 1 => nx (it nx d t)
/-- nx is a bijection of the numbers below M. -/
structure Bij (nx : Nat → Nat) (M : Nat) : Prop where
  lt : ∀ d, d < M → nx d < M
  inj : ∀ d e, d < M → e < M → nx d = nx e → d = e
section
variable {nx : Nat → Nat} {M : Nat}
theorem it_lt (h : Bij nx M) {d : Nat} (hd : d < M) : ∀ t, it nx d t < M
  | 0 => hd
  | t + 1 => h.lt _ (it_lt h hd t)
theorem it_back (h : Bij nx M) {d : Nat} (hd : d < M) : ∀ i j, it nx d i = it nx d (i + j) → it nx d j = d
  | 0, j, e => by rw [Nat.zero_add] at e; exact e.symm
  | i + 1, j, e => by
    refine it_back h hd i j (h.inj _ _ (it_lt h hd _) (it_lt h hd _) ?_)
    rw [show i + 1 + j = (i + j) + 1 by omega] at e
    exact e
theorem returns (h : Bij nx M) {d : Nat} (hd : d < M) : ∃ t, t < M ∧ it nx d (t + 1) = d := by
  refine Classical.byContradiction fun hno => ?_
  have hne : ∀ t, t < M → it nx d (t + 1) ≠ d := fun t ht e => hno ⟨t, ht, e⟩
  have hnd : ((List.range (M + 1)).map (it nx d)).Nodup := by
    rw [List.nodup_iff_pairwise_ne, List.pairwise_map]
    refine List.Pairwise.imp_of_mem ?_ List.pairwise_lt_range
    intro i j hi hj hlt e
    have hj' : j < M + 1 := by simpa using hj
    have := it_back h hd i (j - i) (by rw [show i + (j - i) = j by omega]; exact e)
    refine hne (j - i - 1) (by omega) ?_
    rw [show j - i - 1 + 1 = j - i by omega]; exact this
  have := nodup_len M _ hnd (fun x hx => by
    obtain ⟨t, _, rfl⟩ := List.mem_map.1 hx
    exact it_lt h hd t)
  simp at this
  omega
/-- The length of the round through d. -/
def per (nx : Nat → Nat) (M d : Nat) : Nat := (List.range M).findIdx (fun t => it nx d (t + 1) == d) + 1
theorem per_le (h : Bij nx M) {d : Nat} (hd : d < M) : per nx M d ≤ M := by
  obtain ⟨t, ht, e⟩ := returns h hd
  have := List.findIdx_lt_length_of_exists (p := fun t => it nx d (t + 1) == d) (xs := List.range M) ⟨t, by simpa using ht, by simpa using e⟩
  rw [List.length_range] at this
  unfold per
  omega
theorem per_at (h : Bij nx M) {d : Nat} (hd : d < M) : it nx d (per nx M d) = d := by
  obtain ⟨t, ht, e⟩ := returns h hd
  have hl := List.findIdx_lt_length_of_exists (p := fun t => it nx d (t + 1) == d) (xs := List.range M) ⟨t, by simpa using ht, by simpa using e⟩
  have := List.findIdx_getElem (xs := List.range M) (p := fun t => it nx d (t + 1) == d) (w := hl)
  simpa [per] using this
theorem per_first {d t : Nat} (h1 : 1 ≤ t) (h2 : t < per nx M d) : it nx d t ≠ d := by
  have h3 : t - 1 < (List.range M).findIdx (fun t => it nx d (t + 1) == d) := by unfold per at h2; omega
  have := List.not_of_lt_findIdx (p := fun t => it nx d (t + 1) == d) (xs := List.range M) h3
  simp at this
  rwa [show t - 1 + 1 = t by omega] at this
theorem per_pos (nx : Nat → Nat) (M d : Nat) : 1 ≤ per nx M d := by unfold per; omega
/-- A number of steps that leads back for the first time is the round's length. -/
theorem per_eq (h : Bij nx M) {d p : Nat} (hd : d < M) (h1 : 1 ≤ p) (h2 : it nx d p = d) (h3 : ∀ t, 1 ≤ t → t < p → it nx d t ≠ d) : per nx M d = p := by
  rcases Nat.lt_trichotomy (per nx M d) p with g | g | g
  · exact absurd (per_at h hd) (h3 _ (per_pos nx M d) g)
  · exact g
  · exact absurd h2 (per_first h1 g)
/-- The round through d. -/
def rnd (nx : Nat → Nat) (M d : Nat) : List Nat := (List.range (per nx M d)).map (it nx d)
theorem rnd_len (nx : Nat → Nat) (M d : Nat) : (rnd nx M d).length = per nx M d := by simp [rnd]
theorem rnd_get {d q : Nat} (h : q < per nx M d) : (rnd nx M d).getD q 0 = it nx d q := by
  rw [List.getD_eq_getElem?_getD, List.getElem?_eq_getElem (by rw [rnd_len]; exact h)]
  simp [rnd]
theorem rnd_lt (h : Bij nx M) {d : Nat} (hd : d < M) : ∀ e ∈ rnd nx M d, e < M := by
  intro e he
  obtain ⟨t, _, rfl⟩ := List.mem_map.1 he
  exact it_lt h hd t
theorem rnd_mem {d e : Nat} : e ∈ rnd nx M d ↔ ∃ t, t < per nx M d ∧ it nx d t = e := by simp [rnd]
theorem rnd_self {d : Nat} : d ∈ rnd nx M d := rnd_mem.2 ⟨0, per_pos nx M d, rfl⟩
theorem rnd_nx (h : Bij nx M) {d e : Nat} (hd : d < M) (he : e < M) : nx e ∈ rnd nx M d ↔ e ∈ rnd nx M d := by
  have hp := per_pos nx M d
  constructor
  · intro g
    obtain ⟨t, ht, e1⟩ := rnd_mem.1 g
    by_cases t0 : t = 0
    · subst t0
      refine rnd_mem.2 ⟨per nx M d - 1, by omega, h.inj _ _ (it_lt h hd _) he ?_⟩
      have := per_at h hd
      rw [show per nx M d = per nx M d - 1 + 1 by omega] at this
      rw [← e1]; exact this
    · refine rnd_mem.2 ⟨t - 1, by omega, h.inj _ _ (it_lt h hd _) he ?_⟩
      rw [← e1]
      conv => rhs; rw [show t = t - 1 + 1 by omega]
      rfl
  · intro g
    obtain ⟨t, ht, rfl⟩ := rnd_mem.1 g
    by_cases tp : t + 1 = per nx M d
    · refine rnd_mem.2 ⟨0, hp, ?_⟩
      have := per_at h hd
      rw [← tp] at this
      exact this.symm
    · exact rnd_mem.2 ⟨t + 1, by omega, rfl⟩
theorem rnd_nodup (h : Bij nx M) {d : Nat} (hd : d < M) : (rnd nx M d).Nodup := by
  unfold rnd
  rw [List.nodup_iff_pairwise_ne, List.pairwise_map]
  refine List.Pairwise.imp_of_mem ?_ List.pairwise_lt_range
  intro i j hi hj hlt e
  have hj' : j < per nx M d := by simpa using hj
  have := it_back h hd i (j - i) (by rw [show i + (j - i) = j by omega]; exact e)
  exact per_first (nx := nx) (M := M) (d := d) (t := j - i) (by omega) (by omega) this

/-- The rounds, in the order of their first darts. -/
def rnds (nx : Nat → Nat) (M : Nat) : Nat → List (List Nat)
  | 0 => []
  | d + 1 => if d ∈ (rnds nx M d).flatten then rnds nx M d else rnds nx M d ++ [rnd nx M d]
theorem rnds_old {d : Nat} (h : d ∈ (rnds nx M d).flatten) : rnds nx M (d + 1) = rnds nx M d := if_pos h
theorem rnds_new {d : Nat} (h : ¬ d ∈ (rnds nx M d).flatten) : rnds nx M (d + 1) = rnds nx M d ++ [rnd nx M d] := if_neg h
theorem rnds_ok (h : Bij nx M) : ∀ d, d ≤ M → (rnds nx M d).flatten.Nodup ∧ (∀ e ∈ (rnds nx M d).flatten, e < M) ∧ (∀ e, e < M → (nx e ∈ (rnds nx M d).flatten ↔ e ∈ (rnds nx M d).flatten)) ∧ (∀ e, e < d → e ∈ (rnds nx M d).flatten)
  | 0, _ => ⟨by simp [rnds], by simp [rnds], by simp [rnds], fun e he => by omega⟩
  | d + 1, hd => by
    obtain ⟨h1, h2, h3, h4⟩ := rnds_ok h d (by omega)
    by_cases g : d ∈ (rnds nx M d).flatten
    · rw [rnds_old g]
      refine ⟨h1, h2, h3, fun e he => ?_⟩
      by_cases q : e = d
      · rw [q]; exact g
      · exact h4 e (by omega)
    · rw [rnds_new g]
      have hdM : d < M := by omega
      have hap : ∀ t, ¬ it nx d t ∈ (rnds nx M d).flatten := by
        intro t
        induction t with
        | zero => exact g
        | succ t ih => intro q; exact ih ((h3 _ (it_lt h hdM t)).1 q)
      have hf : (rnds nx M d ++ [rnd nx M d]).flatten = (rnds nx M d).flatten ++ rnd nx M d := by simp
      rw [hf]
      refine ⟨?_, ?_, ?_, ?_⟩
      · rw [List.nodup_append]
        refine ⟨h1, rnd_nodup h hdM, ?_⟩
        intro x hx y hy e
        obtain ⟨t, _, rfl⟩ := rnd_mem.1 hy
        subst e
        exact hap t hx
      · intro e he
        rcases List.mem_append.1 he with q | q
        · exact h2 e q
        · exact rnd_lt h hdM e q
      · intro e he
        rw [List.mem_append, List.mem_append, h3 e he, rnd_nx h hdM he]
      · intro e he
        by_cases q : e = d
        · rw [q]; exact List.mem_append_right _ rnd_self
        · exact List.mem_append_left _ (h4 e (by omega))
theorem rnds_mem {d : Nat} {r : List Nat} (h : r ∈ rnds nx M d) : ∃ e, e < d ∧ r = rnd nx M e := by
  induction d with
  | zero => simp [rnds] at h
  | succ d ih =>
    by_cases g : d ∈ (rnds nx M d).flatten
    · rw [rnds_old g] at h
      obtain ⟨e, he, hr⟩ := ih h
      exact ⟨e, by omega, hr⟩
    · rw [rnds_new g] at h
      rcases List.mem_append.1 h with q | q
      · obtain ⟨e, he, hr⟩ := ih q
        exact ⟨e, by omega, hr⟩
      · simp at q; exact ⟨d, by omega, q⟩
theorem flat_two : ∀ (R : List (List Nat)), (∀ r ∈ R, 2 ≤ r.length) → 2 * R.length ≤ R.flatten.length
  | [], _ => by simp
  | r :: R, h => by
    have h1 := flat_two R (fun r hr => h r (by simp [hr]))
    have h2 := h r (by simp)
    simp only [List.flatten_cons, List.length_append, List.length_cons]
    omega
theorem per_two (h : Bij nx M) {d : Nat} (hd : d < M) (hne : nx d ≠ d) : 2 ≤ per nx M d := by
  have h1 := per_pos nx M d
  rcases Nat.lt_or_ge 1 (per nx M d) with g | g
  · exact g
  · have e : per nx M d = 1 := by omega
    have := per_at h hd
    rw [e] at this
    exact absurd this hne
/-- There are at most half as many rounds as darts, if no dart follows itself. -/
theorem rnds_few (h : Bij nx M) (hne : ∀ d, d < M → nx d ≠ d) {d : Nat} (hd : d ≤ M) : 2 * (rnds nx M d).length ≤ M := by
  obtain ⟨h1, h2, _, _⟩ := rnds_ok h d hd
  have h3 := nodup_len M _ h1 h2
  have h4 := flat_two (rnds nx M d) (fun r hr => by
    obtain ⟨e, he, rfl⟩ := rnds_mem hr
    rw [rnd_len]
    exact per_two h (by omega) (hne e (by omega)))
  omega
end
end Go.Proofs.YtgmhmlhdiklaaaaGreatDoor.Ring
