/-
  What is in a crate, which crates are used, in which order the panes return. Plain.
-/
import Derived.Test.YthnngekibkcgdaaDepB
import Derived.Test.YthnngekibkcgdaaDepA
import Derived.Test.YthnngekibkcgdaaSortW
namespace Go.Proofs.Ythnngekibkcgdaa
open Go.RowKit
set_option linter.unusedVariables false

/-- x put into an ascending list, if it is not there yet. -/
def insU : List Int → Int → List Int
  | [], x => [x]
  | y :: r, x => if y < x then y :: insU r x else if y = x then y :: r else x :: y :: r
abbrev Asc (l : List Int) : Prop := l.Pairwise (· < ·)
theorem insU_mem {l : List Int} {x z : Int} : z ∈ insU l x ↔ z = x ∨ z ∈ l := by
  induction l with
  | nil => simp [insU]
  | cons y r ih =>
    unfold insU
    split
    · rw [List.mem_cons, ih, List.mem_cons]
      constructor <;> (rintro (h | h | h) <;> simp [h])
    · split
      · rename_i e; subst e; simp
      · simp
theorem insU_asc {l : List Int} {x : Int} (h : Asc l) : Asc (insU l x) := by
  induction l with
  | nil => simp [insU, Asc]
  | cons y r ih =>
    obtain ⟨h1, h2⟩ := List.pairwise_cons.1 h
    unfold insU
    split
    · rename_i q
      refine List.pairwise_cons.2 ⟨fun z hz => ?_, ih h2⟩
      rcases insU_mem.1 hz with rfl | k
      · exact q
      · exact h1 z k
    · split
      · exact h
      · refine List.pairwise_cons.2 ⟨fun z hz => ?_, h⟩
        rcases List.mem_cons.1 hz with rfl | k
        · omega
        · have := h1 z k; omega
theorem insU_len (l : List Int) (x : Int) : (insU l x).length ≤ l.length + 1 := by
  induction l with
  | nil => simp [insU]
  | cons y r ih => unfold insU; split <;> (try split) <;> simp <;> omega
theorem insU_ne (l : List Int) (x : Int) : 0 < (insU l x).length := by
  cases l with
  | nil => simp [insU]
  | cons y r => unfold insU; split <;> (try split) <;> simp
theorem ix_cons (y : Int) (r : List Int) (k : Nat) : ix (y :: r) (k + 1) = ix r k := by simp [ix]
theorem insU_found : ∀ {l : List Int} {x : Int} {k : Nat}, k < l.length → (∀ j, j < k → ix l j < x) → ix l k = x → insU l x = l
  | [], x, k, h, _, _ => by simp at h
  | y :: r, x, 0, h, _, e => by
    have e' : y = x := by simpa [ix] using e
    unfold insU
    rw [if_neg (by omega), if_pos e']
  | y :: r, x, k + 1, h, hl, e => by
    have h0 : y < x := by simpa [ix] using hl 0 (by omega)
    unfold insU
    rw [if_pos h0, insU_found (k := k) (by simpa using h) (fun j hj => by have := hl (j + 1) (by omega); rwa [ix_cons] at this) (by rwa [ix_cons] at e)]
theorem insU_put : ∀ {l : List Int} {x : Int} {k : Nat}, k ≤ l.length → (∀ j, j < k → ix l j < x) → (k < l.length → x < ix l k) → insU l x = l.take k ++ [x] ++ l.drop k
  | [], x, k, h, _, _ => by
    have : k = 0 := by simpa using h
    subst this
    rfl
  | y :: r, x, 0, h, _, e => by
    have e' : x < y := by simpa [ix] using e (by simp)
    unfold insU
    rw [if_neg (by omega), if_neg (by omega)]
    rfl
  | y :: r, x, k + 1, h, hl, e => by
    have h0 : y < x := by simpa [ix] using hl 0 (by omega)
    unfold insU
    rw [if_pos h0, insU_put (k := k) (by simpa using h) (fun j hj => by have := hl (j + 1) (by omega); rwa [ix_cons] at this) (fun q => by have := e (by simpa using q); rwa [ix_cons] at this)]
    rfl
theorem asc_eq : ∀ {xs ys : List Int}, Asc xs → Asc ys → (∀ z, z ∈ xs ↔ z ∈ ys) → xs = ys
  | [], [], _, _, _ => rfl
  | [], y :: ys, _, _, h => by have := (h y).2 (by simp); simp at this
  | x :: xs, [], _, _, h => by have := (h x).1 (by simp); simp at this
  | x :: xs, y :: ys, h1, h2, h => by
    obtain ⟨a1, a2⟩ := List.pairwise_cons.1 h1
    obtain ⟨b1, b2⟩ := List.pairwise_cons.1 h2
    have e : x = y := by
      have p := (h x).1 (by simp)
      have q := (h y).2 (by simp)
      rcases List.mem_cons.1 p with p | p
      · exact p
      · rcases List.mem_cons.1 q with q | q
        · exact q.symm
        · have := a1 y q; have := b1 x p; omega
    subst e
    rw [asc_eq a2 b2 fun z => ?_]
    have := h z
    constructor
    · intro hz
      rcases List.mem_cons.1 (this.1 (List.mem_cons_of_mem _ hz)) with q | q
      · have := a1 z hz; omega
      · exact q
    · intro hz
      rcases List.mem_cons.1 (this.2 (List.mem_cons_of_mem _ hz)) with q | q
      · have := b1 z hz; omega
      · exact q
theorem srtL_asc {zs : List Int} (h : zs.Nodup) : Asc (srtL zs) := by
  have h1 : (srtL zs).Pairwise fun x y => decide (x ≤ y) = true := by
    unfold srtL
    exact List.pairwise_mergeSort (fun a b c h1 h2 => by simp at h1 h2 ⊢; omega) (fun a b => by simp; omega) zs
  have h2 : (srtL zs).Nodup := by
    unfold srtL
    exact (List.mergeSort_perm zs _).nodup_iff.2 h
  refine List.Pairwise.imp ?_ (List.Pairwise.and h1 h2)
  rintro a b ⟨q1, q2⟩
  have := of_decide_eq_true q1
  omega

/-- The places of the first n deposits that lie in crate c, as they stand. -/
def crL (f : Nat → Nat → Int) (c : Int) : Nat → List Int
  | 0 => []
  | n + 1 => if f n 1 = c then crL f c n ++ [f n 0] else crL f c n
theorem crL_mem {f : Nat → Nat → Int} {c z : Int} : ∀ {n : Nat}, z ∈ crL f c n ↔ ∃ i, i < n ∧ f i 1 = c ∧ f i 0 = z
  | 0 => by simp [crL]
  | n + 1 => by
    unfold crL
    have ih := crL_mem (f := f) (c := c) (z := z) (n := n)
    split
    · rename_i e
      rw [List.mem_append, ih]
      constructor
      · rintro (⟨i, h1, h2, h3⟩ | h)
        · exact ⟨i, by omega, h2, h3⟩
        · exact ⟨n, by omega, e, by simpa using Eq.symm (by simpa using h)⟩
      · rintro ⟨i, h1, h2, h3⟩
        by_cases q : i = n
        · subst q; right; simp [h3]
        · exact .inl ⟨i, by omega, h2, h3⟩
    · rename_i e
      rw [ih]
      constructor
      · rintro ⟨i, h1, h2, h3⟩; exact ⟨i, by omega, h2, h3⟩
      · rintro ⟨i, h1, h2, h3⟩
        by_cases q : i = n
        · subst q; exact absurd h2 e
        · exact ⟨i, by omega, h2, h3⟩
theorem crL_len (f : Nat → Nat → Int) (c : Int) : ∀ n, (crL f c n).length ≤ n
  | 0 => Nat.le_refl _
  | n + 1 => by
    have := crL_len f c n
    unfold crL
    split
    · rw [List.length_append]; simp; omega
    · omega
theorem crL_nodup {f : Nat → Nat → Int} {c : Int} : ∀ {n : Nat}, (∀ i j, i < j → j < n → f i 0 ≠ f j 0) → (crL f c n).Nodup
  | 0, _ => by simp [crL]
  | n + 1, h => by
    have ih := crL_nodup (f := f) (c := c) (n := n) fun i j h1 h2 => h i j h1 (by omega)
    unfold crL
    split
    · rw [List.nodup_append]
      refine ⟨ih, by simp, fun a ha b hb => ?_⟩
      obtain ⟨i, h1, h2, h3⟩ := crL_mem.1 ha
      have : b = f n 0 := by simpa using hb
      rw [this, ← h3]
      exact h i n h1 (by omega)
    · exact ih
/-- The same, put in one by one. -/
def inS (f : Nat → Nat → Int) (c : Int) : Nat → List Int
  | 0 => []
  | n + 1 => if f n 1 = c then insU (inS f c n) (f n 0) else inS f c n
theorem inS_mem {f : Nat → Nat → Int} {c z : Int} : ∀ {n : Nat}, z ∈ inS f c n ↔ z ∈ crL f c n
  | 0 => by simp [crL, inS]
  | n + 1 => by
    have ih := inS_mem (f := f) (c := c) (z := z) (n := n)
    unfold crL inS
    split
    · rw [insU_mem, ih, List.mem_append]
      constructor
      · rintro (h | h)
        · right; simp [h]
        · exact .inl h
      · rintro (h | h)
        · exact .inr h
        · left; simpa using h
    · exact ih
theorem inS_asc {f : Nat → Nat → Int} {c : Int} : ∀ {n : Nat}, Asc (inS f c n)
  | 0 => by simp [inS, Asc]
  | n + 1 => by
    have ih := inS_asc (f := f) (c := c) (n := n)
    unfold inS
    split
    · exact insU_asc ih
    · exact ih
theorem inS_len (f : Nat → Nat → Int) (c : Int) : ∀ n, (inS f c n).length ≤ n
  | 0 => Nat.le_refl _
  | n + 1 => by
    have := inS_len f c n
    have := insU_len (inS f c n) (f n 0)
    unfold inS
    split <;> omega
theorem depB_apart' {n : Nat} {f : Nat → Nat → Int} (h : depB n f = true) {i j : Nat} (hij : i < j) (hj : j < n) : f i 0 ≠ f j 0 := by
  intro e
  rw [depB_no hj (depAt_c hij e)] at h
  exact Bool.noConfusion h
theorem depB_at {n : Nat} {f : Nat → Nat → Int} (h : depB n f = true) {j : Nat} (hj : j < n) : fstB f j = true := by
  cases q : fstB f j
  · rw [depB_no hj (depAt_a q)] at h; exact Bool.noConfusion h
  · rfl
theorem depB_crate {n : Nat} {f : Nat → Nat → Int} (h : depB n f = true) {j : Nat} (hj : j < n) : 1 ≤ f j 1 ∧ f j 1 ≤ 50 := by
  have := depB_at h hj
  unfold fstB inB at this
  simp at this
  omega
theorem in_spec {n : Nat} {f : Nat → Nat → Int} {c : Int} (h : depB n f = true) : srtL (crL f c n) = inS f c n :=
  asc_eq (srtL_asc (crL_nodup fun i j h1 h2 => depB_apart' h h1 h2)) inS_asc fun z => by rw [srtL_mem, inS_mem]
/-- What InCrate answers. -/
def inL (n : Nat) (f : Nat → Nat → Int) (c : Int) : List Int := if depB n f = true then inS f c n else []
theorem inL_len (n : Nat) (f : Nat → Nat → Int) (c : Int) : (inL n f c).length ≤ n := by
  unfold inL
  split
  · exact inS_len f c n
  · simp
/-- The crates from 1 to k that hold something. -/
def usB (n : Nat) (f : Nat → Nat → Int) : Nat → List Int
  | 0 => []
  | k + 1 => if 0 < (inL n f ((k : Int) + 1)).length then usB n f k ++ [(k : Int) + 1] else usB n f k
theorem usB_len (n : Nat) (f : Nat → Nat → Int) : ∀ k, (usB n f k).length ≤ k
  | 0 => Nat.le_refl _
  | k + 1 => by
    have := usB_len n f k
    unfold usB
    split
    · rw [List.length_append]; simp; omega
    · omega
theorem usB_mem {n : Nat} {f : Nat → Nat → Int} {z : Int} : ∀ {k : Nat}, z ∈ usB n f k ↔ 1 ≤ z ∧ z ≤ (k : Int) ∧ 0 < (inL n f z).length
  | 0 => by simp [usB]; omega
  | k + 1 => by
    have ih := usB_mem (n := n) (f := f) (z := z) (k := k)
    have hc : ((k + 1 : Nat) : Int) = (k : Int) + 1 := by omega
    unfold usB
    rw [hc]
    split
    · rename_i e
      rw [List.mem_append, ih]
      constructor
      · rintro (⟨h1, h2, h3⟩ | h)
        · exact ⟨h1, by omega, h3⟩
        · have : z = (k : Int) + 1 := by simpa using h
          subst this
          exact ⟨by omega, by omega, e⟩
      · rintro ⟨h1, h2, h3⟩
        by_cases q : z = (k : Int) + 1
        · right; simp [q]
        · exact .inl ⟨h1, by omega, h3⟩
    · rename_i e
      rw [ih]
      constructor
      · rintro ⟨h1, h2, h3⟩; exact ⟨h1, by omega, h3⟩
      · rintro ⟨h1, h2, h3⟩
        by_cases q : z = (k : Int) + 1
        · subst q; exact absurd h3 e
        · exact ⟨h1, by omega, h3⟩
theorem usB_asc {n : Nat} {f : Nat → Nat → Int} : ∀ {k : Nat}, Asc (usB n f k)
  | 0 => by simp [usB, Asc]
  | k + 1 => by
    have ih := usB_asc (n := n) (f := f) (k := k)
    unfold usB
    split
    · refine List.pairwise_append.2 ⟨ih, by simp, fun a ha b hb => ?_⟩
      have h1 := usB_mem.1 ha
      have : b = (k : Int) + 1 := by simpa using hb
      omega
    · exact ih
def usS (f : Nat → Nat → Int) : Nat → List Int
  | 0 => []
  | n + 1 => insU (usS f n) (f n 1)
theorem usS_mem {f : Nat → Nat → Int} {z : Int} : ∀ {n : Nat}, z ∈ usS f n ↔ ∃ i, i < n ∧ f i 1 = z
  | 0 => by simp [usS]
  | n + 1 => by
    have ih := usS_mem (f := f) (z := z) (n := n)
    unfold usS
    rw [insU_mem, ih]
    constructor
    · rintro (h | ⟨i, h1, h2⟩)
      · exact ⟨n, by omega, h.symm⟩
      · exact ⟨i, by omega, h2⟩
    · rintro ⟨i, h1, h2⟩
      by_cases q : i = n
      · subst q; exact .inl h2.symm
      · exact .inr ⟨i, by omega, h2⟩
theorem usS_asc {f : Nat → Nat → Int} : ∀ {n : Nat}, Asc (usS f n)
  | 0 => by simp [usS, Asc]
  | n + 1 => by unfold usS; exact insU_asc (usS_asc (n := n))
theorem usS_len (f : Nat → Nat → Int) : ∀ n, (usS f n).length ≤ n
  | 0 => Nat.le_refl _
  | n + 1 => by
    have := usS_len f n
    have := insU_len (usS f n) (f n 1)
    unfold usS; omega
/-- What CratesUsed answers. -/
def usL (n : Nat) (f : Nat → Nat → Int) : List Int := if depB n f = true then usS f n else []
theorem usL_len (n : Nat) (f : Nat → Nat → Int) : (usL n f).length ≤ n := by
  unfold usL
  split
  · exact usS_len f n
  · simp
theorem len_pos {l : List Int} : 0 < l.length ↔ ∃ z, z ∈ l := by
  cases l with
  | nil => simp
  | cons x r => exact ⟨fun _ => ⟨x, by simp⟩, fun _ => by simp⟩
theorem inL_pos {n : Nat} {f : Nat → Nat → Int} {c : Int} (h : depB n f = true) : 0 < (inL n f c).length ↔ ∃ i, i < n ∧ f i 1 = c := by
  unfold inL
  rw [if_pos h, len_pos]
  constructor
  · rintro ⟨z, hz⟩
    obtain ⟨i, h1, h2, _⟩ := crL_mem.1 (inS_mem.1 hz)
    exact ⟨i, h1, h2⟩
  · rintro ⟨i, h1, h2⟩
    exact ⟨f i 0, inS_mem.2 (crL_mem.2 ⟨i, h1, h2, rfl⟩)⟩
theorem us_spec {n : Nat} {f : Nat → Nat → Int} (h : depB n f = true) : usB n f 50 = usL n f := by
  unfold usL
  rw [if_pos h]
  refine asc_eq usB_asc usS_asc fun z => ?_
  rw [usB_mem, usS_mem, inL_pos h]
  constructor
  · rintro ⟨_, _, q⟩; exact q
  · rintro ⟨i, h1, h2⟩
    have := depB_crate h h1
    exact ⟨by omega, by omega, i, h1, h2⟩
/-- The places of the last k of the n deposits that lie in crate c, from the last on. -/
def bkL (n : Nat) (f : Nat → Nat → Int) (c : Int) : Nat → List Int
  | 0 => []
  | k + 1 => if f (n - 1 - k) 1 = c then bkL n f c k ++ [f (n - 1 - k) 0] else bkL n f c k
theorem bkL_len (n : Nat) (f : Nat → Nat → Int) (c : Int) : ∀ k, (bkL n f c k).length ≤ k
  | 0 => Nat.le_refl _
  | k + 1 => by
    have := bkL_len n f c k
    unfold bkL
    split
    · rw [List.length_append]; simp; omega
    · omega
/-- .. of the first k of the crates cs. -/
def roP (n : Nat) (f : Nat → Nat → Int) (cs : List Int) : Nat → List Int
  | 0 => []
  | k + 1 => roP n f cs k ++ bkL n f (ix cs k) n
theorem roP_len (n : Nat) (f : Nat → Nat → Int) (cs : List Int) : ∀ k, (roP n f cs k).length ≤ k * n
  | 0 => by simp [roP]
  | k + 1 => by
    have := roP_len n f cs k
    have := bkL_len n f (ix cs k) n
    unfold roP
    rw [List.length_append, Nat.succ_mul]; omega
/-- What ReturnOrder answers. -/
def roL (n : Nat) (f : Nat → Nat → Int) : List Int := roP n f (usL n f) (usL n f).length
theorem usL_le (n : Nat) (f : Nat → Nat → Int) : (usL n f).length ≤ 40 := by
  unfold usL
  split
  · rename_i h
    have := usS_len f n
    by_cases q : n ≤ 40
    · omega
    · rw [depB_long q] at h; exact Bool.noConfusion h
  · simp

end Go.Proofs.Ythnngekibkcgdaa
