/-
  Packing the crates: what is computed. Plain.
-/
import Derived.Test.YthnngekibkcgdaaCrK
import Derived.Test.YthnngekibkcgdaaCrateC
import Derived.Test.YthnngekibkcgdaaInsert
import Derived.Test.YthnngekibkcgdaaInP
import Derived.Test.YthnngekibkcgdaaSortW
import Derived.Test.YthnngekibkcgdaaFdx
namespace Go.Proofs.Ythnngekibkcgdaa
open Go.RowKit Ring
set_option linter.unusedVariables false

/-- x goes before y: it weighs more. -/
def wlt (f : Nat → Nat → Int) (x y : Nat) : Bool := decide (f y 0 - f x 0 < 0)
def ordN (f : Nat → Nat → Int) (n : Nat) : List Nat := srt (wlt f) (List.range n)
theorem ordN_len (f : Nat → Nat → Int) (n : Nat) : (ordN f n).length = n := by unfold ordN; rw [srt_len, List.length_range]
theorem ordN_mem {f : Nat → Nat → Int} {n x : Nat} : x ∈ ordN f n ↔ x < n := by unfold ordN; rw [srt_mem, List.mem_range]
theorem ordN_nodup (f : Nat → Nat → Int) (n : Nat) : (ordN f n).Nodup := by unfold ordN; exact srt_nodup _ List.nodup_range
theorem getD_lt {l : List Nat} {i : Nat} (h : i < l.length) : l.getD i 0 = l[i] := by rw [List.getD_eq_getElem?_getD, List.getElem?_eq_getElem h]; rfl
theorem ordN_at {f : Nat → Nat → Int} {n i : Nat} (h : i < n) : (ordN f n).getD i 0 < n := by
  rw [getD_lt (by rw [ordN_len]; exact h)]
  exact ordN_mem.1 (List.getElem_mem _)
/-- What the panes weigh. -/
def sumF (f : Nat → Nat → Int) (L : List Nat) : Int := (L.map fun k => f k 0).sum
theorem sumF_snoc (f : Nat → Nat → Int) (L : List Nat) (k : Nat) : sumF f (L ++ [k]) = sumF f L + f k 0 := by
  unfold sumF; simp
/-- The first place below m at which p holds; m where there is none. -/
def fstP (p : Nat → Bool) (m : Nat) : Nat := if 0 ≤ fdx p m then (fdx p m).toNat else m
theorem fstP_at {p : Nat → Bool} {m j : Nat} (hj : j < m) (h : p j = true) (hb : ∀ i, i < j → p i = false) : fstP p m = j := by
  unfold fstP
  rw [fdx_at hj h hb, if_pos (by omega)]
  omega
theorem fstP_none {p : Nat → Bool} {m : Nat} (h : ∀ i, i < m → p i = false) : fstP p m = m := by
  unfold fstP
  rw [fdx_none h]
  rfl
theorem fstP_le (p : Nat → Bool) (m : Nat) : fstP p m ≤ m := by
  rcases fdx_cases p m with ⟨h1, h2⟩ | ⟨j, h1, h2, h3, h4⟩
  · unfold fstP; rw [h2]; simp
  · unfold fstP; rw [h4]; simp; omega
/-- How many crates there are when the first i panes of ord have been packed, and which panes lie where. -/
def pcs (f : Nat → Nat → Int) (lim : Int) (ord : List Nat) : Nat → Nat × (Nat → List Nat)
  | 0 => (0, fun _ => [])
  | i + 1 =>
    let s := pcs f lim ord i
    let k := ord.getD i 0
    let t := fstP (fun j => decide (sumF f (s.2 j) + f k 0 ≤ lim)) s.1
    (max s.1 (t + 1), upd s.2 t (s.2 t ++ [k]))
section
variable {f : Nat → Nat → Int} {lim : Int} {ord : List Nat}
theorem pcs_succ (i t : Nat) (h : fstP (fun j => decide (sumF f ((pcs f lim ord i).2 j) + f (ord.getD i 0) 0 ≤ lim)) (pcs f lim ord i).1 = t) :
    pcs f lim ord (i + 1) = (max (pcs f lim ord i).1 (t + 1), upd (pcs f lim ord i).2 t ((pcs f lim ord i).2 t ++ [ord.getD i 0])) := by
  rw [pcs]; simp only [h]
theorem pcs_le : ∀ i, (pcs f lim ord i).1 ≤ i
  | 0 => Nat.le_refl _
  | i + 1 => by
    have := pcs_le i
    have h := fstP_le (fun j => decide (sumF f ((pcs f lim ord i).2 j) + f (ord.getD i 0) 0 ≤ lim)) (pcs f lim ord i).1
    rw [pcs_succ i _ rfl]
    simp only
    omega
theorem pcs_out : ∀ i j, (pcs f lim ord i).1 ≤ j → (pcs f lim ord i).2 j = []
  | 0, j, _ => rfl
  | i + 1, j, h => by
    rw [pcs_succ i _ rfl] at h ⊢
    simp only at h ⊢
    rw [upd_ne (by omega)]
    exact pcs_out i j (by omega)
theorem pcs_rl : ∀ i j, ((pcs f lim ord i).2 j).length ≤ i
  | 0, j => by simp [pcs]
  | i + 1, j => by
    rw [pcs_succ i _ rfl]
    simp only
    generalize fstP (fun j => decide (sumF f ((pcs f lim ord i).2 j) + f (ord.getD i 0) 0 ≤ lim)) (pcs f lim ord i).1 = t
    by_cases e : j = t
    · subst e
      have := pcs_rl i j
      rw [upd_at, List.length_append]
      simp; omega
    · have := pcs_rl i j
      rw [upd_ne e]; omega
theorem pcs_mem : ∀ i j x, x ∈ (pcs f lim ord i).2 j → ∃ q, q < i ∧ ord.getD q 0 = x
  | 0, j, x, h => by simp [pcs] at h
  | i + 1, j, x, h => by
    rw [pcs_succ i _ rfl] at h
    simp only at h
    generalize fstP (fun j => decide (sumF f ((pcs f lim ord i).2 j) + f (ord.getD i 0) 0 ≤ lim)) (pcs f lim ord i).1 = t at h
    by_cases e : j = t
    · subst e
      rw [upd_at, List.mem_append] at h
      rcases h with h | h
      · obtain ⟨q, h1, h2⟩ := pcs_mem i j x h; exact ⟨q, by omega, h2⟩
      · exact ⟨i, by omega, by simpa using Eq.symm (by simpa using h)⟩
    · rw [upd_ne e] at h
      obtain ⟨q, h1, h2⟩ := pcs_mem i j x h
      exact ⟨q, by omega, h2⟩
theorem ord_inj (hd : ord.Nodup) {i j : Nat} (hi : i < ord.length) (hj : j < ord.length) (e : ord.getD i 0 = ord.getD j 0) : i = j := by
  rw [getD_lt hi, getD_lt hj] at e
  have hp := List.pairwise_iff_getElem.1 hd
  rcases Nat.lt_trichotomy i j with q | q | q
  · exact absurd e (hp i j hi hj q)
  · exact q
  · exact absurd e.symm (hp j i hj hi q)
theorem pcs_new (hd : ord.Nodup) {i : Nat} (hi : i < ord.length) (j : Nat) : ¬ ord.getD i 0 ∈ (pcs f lim ord i).2 j := by
  intro h
  obtain ⟨q, h1, h2⟩ := pcs_mem i j _ h
  have := ord_inj hd (by omega) hi h2
  omega
theorem pcs_nodup (hd : ord.Nodup) : ∀ i, i ≤ ord.length → ∀ j, ((pcs f lim ord i).2 j).Nodup
  | 0, _, j => by simp [pcs]
  | i + 1, hi, j => by
    have hn := pcs_new (f := f) (lim := lim) hd (i := i) (by omega)
    rw [pcs_succ i _ rfl]
    simp only
    generalize fstP (fun j => decide (sumF f ((pcs f lim ord i).2 j) + f (ord.getD i 0) 0 ≤ lim)) (pcs f lim ord i).1 = t
    by_cases e : j = t
    · subst e
      rw [upd_at, List.nodup_append]
      refine ⟨pcs_nodup hd i (by omega) j, by simp, fun a ha b hb => ?_⟩
      have : b = ord.getD i 0 := by simpa using hb
      rw [this]
      intro e
      exact hn j (by rw [← e]; exact ha)
    · rw [upd_ne e]; exact pcs_nodup hd i (by omega) j
/-- Every crate weighs at most the limit. -/
theorem pcs_sum (h0 : 0 ≤ lim) (hf : ∀ x ∈ ord, 0 ≤ f x 0 ∧ f x 0 ≤ lim) : ∀ i, i ≤ ord.length → ∀ j, 0 ≤ sumF f ((pcs f lim ord i).2 j) ∧ sumF f ((pcs f lim ord i).2 j) ≤ lim
  | 0, _, j => by simp [pcs, sumF, h0]
  | i + 1, hi, j => by
    have ih := pcs_sum h0 hf i (by omega)
    have hk := hf (ord.getD i 0) (by rw [getD_lt (by omega)]; exact List.getElem_mem _)
    rw [pcs_succ i _ rfl]
    simp only
    rcases fdx_cases (fun j => decide (sumF f ((pcs f lim ord i).2 j) + f (ord.getD i 0) 0 ≤ lim)) (pcs f lim ord i).1 with ⟨q1, q2⟩ | ⟨t, q1, q2, q3, q4⟩
    · rw [fstP_none q1]
      by_cases e : j = (pcs f lim ord i).1
      · subst e
        rw [upd_at, pcs_out i _ (Nat.le_refl _), show sumF f ([] ++ [ord.getD i 0]) = f (ord.getD i 0) 0 from by simp [sumF]]
        exact hk
      · rw [upd_ne e]; exact ih j
    · rw [fstP_at q1 q2 q3]
      have q2' := of_decide_eq_true q2
      have iht := ih t
      by_cases e : j = t
      · subst e
        rw [upd_at, sumF_snoc]; omega
      · rw [upd_ne e]; exact ih j
end
/-- A row of panes, sorted. -/
def srtN (L : List Nat) : List Int := srtL (nums L)
theorem srtN_len (L : List Nat) : (srtN L).length = L.length := by unfold srtN; rw [srtL_len, nums_len]
theorem nums_mem {L : List Nat} {z : Int} : z ∈ nums L ↔ ∃ x ∈ L, z = (x : Int) := by
  unfold nums
  rw [List.mem_map]
  constructor
  · rintro ⟨x, h, rfl⟩; exact ⟨x, h, rfl⟩
  · rintro ⟨x, h, rfl⟩; exact ⟨x, h, rfl⟩
theorem srtN_mem {L : List Nat} {z : Int} : z ∈ srtN L ↔ ∃ x ∈ L, z = (x : Int) := by unfold srtN; rw [srtL_mem, nums_mem]
theorem nums_nodup {L : List Nat} (h : L.Nodup) : (nums L).Nodup := by
  unfold nums
  rw [List.nodup_iff_pairwise_ne, List.pairwise_map]
  exact List.Pairwise.imp (fun h e => h (by omega)) h
theorem srtN_asc {L : List Nat} (h : L.Nodup) : Asc (srtN L) := srtL_asc (nums_nodup h)
/-- A pane put in its place. -/
theorem srtN_put {L : List Nat} {k : Nat} (h : L.Nodup) (hk : ¬ k ∈ L) : srtN (L ++ [k]) = insU (srtN L) (k : Int) := by
  have hd : (L ++ [k]).Nodup := by
    rw [List.nodup_append]
    refine ⟨h, by simp, fun a ha b hb e => ?_⟩
    have : b = k := by simpa using hb
    exact hk (by rw [← this, ← e]; exact ha)
  refine asc_eq (srtN_asc hd) (insU_asc (srtN_asc h)) fun z => ?_
  rw [insU_mem, srtN_mem, srtN_mem]
  constructor
  · rintro ⟨x, hx, rfl⟩
    rcases List.mem_append.1 hx with q | q
    · exact .inr ⟨x, q, rfl⟩
    · left; have : x = k := by simpa using q
      rw [this]
  · rintro (rfl | ⟨x, hx, rfl⟩)
    · exact ⟨k, by simp, rfl⟩
    · exact ⟨x, by simp [hx], rfl⟩
theorem srtN_notin {L : List Nat} {k : Nat} (hk : ¬ k ∈ L) : ¬ (k : Int) ∈ srtN L := by
  rw [srtN_mem]
  rintro ⟨x, hx, e⟩
  exact hk (by rw [show k = x by omega]; exact hx)
theorem sum_perm {xs ys : List Int} (h : xs.Perm ys) : xs.sum = ys.sum := by
  induction h with
  | nil => rfl
  | cons x _ ih => simp [ih]
  | swap x y l => simp; omega
  | trans _ _ ih1 ih2 => rw [ih1, ih2]
theorem psum_sum (g : Int → Int) : ∀ l : List Int, psum (fun j => g (ix l j)) l.length = (l.map g).sum
  | [] => rfl
  | x :: r => by
    have ih := psum_sum g r
    rw [List.length_cons, psum_cons0, List.map_cons, List.sum_cons, ← ih]
    congr 1
where
  psum_cons0 {g : Nat → Int} : ∀ {n : Nat}, psum g (n + 1) = g 0 + psum (fun j => g (j + 1)) n := by
    intro n
    induction n with
    | zero => simp [psum]
    | succ n ih =>
      show psum g (n + 1) + g (n + 1) = _
      rw [ih]
      show _ = g 0 + (psum (fun j => g (j + 1)) n + g (n + 1))
      omega
theorem wsum_srtN (f : Nat → Nat → Int) (L : List Nat) : wsum f (fun i _ => ix (srtN L) i) (srtN L).length = sumF f L := by
  unfold wsum
  refine Eq.trans (psum_sum (fun z : Int => f z.toNat 0) (srtN L)) ?_
  unfold srtN srtL
  rw [sum_perm ((List.mergeSort_perm (nums L) _).map _)]
  unfold nums sumF
  rw [List.map_map]
  congr 1
theorem ris_srtN {L : List Nat} {n : Nat} (h : L.Nodup) (hl : ∀ x ∈ L, x < n) : risB (srtN L).length (fun i _ => ix (srtN L) i) 0 ((n : Int) - 1) = true := by
  refine allB_yes fun j hj => ?_
  have hm : ix (srtN L) j ∈ srtN L := by rw [ix_get hj]; exact List.getElem_mem hj
  obtain ⟨x, hx, e⟩ := srtN_mem.1 hm
  have := hl x hx
  unfold risAt inB
  by_cases q : j = 0
  · simp [q]
    rw [q] at e
    omega
  · have ha := List.pairwise_iff_getElem.1 (srtN_asc h) (j - 1) j (by omega) hj (by omega)
    rw [← ix_get (by omega), ← ix_get hj] at ha
    simp
    omega
theorem crateW_srtN {f : Nat → Nat → Int} {n : Nat} {L : List Nat} {lim : Int} (h1 : allIn n f 0 10000 = true) (h2 : inB lim 0 100000 = true) (h : L.Nodup) (hl : ∀ x ∈ L, x < n) : crateW n f (srtN L).length (fun i _ => ix (srtN L) i) lim = sumF f L := by
  rw [crateW_yes (by unfold crateB; rw [h1, h2, ris_srtN h hl]; rfl), wsum_srtN]
/-- May these weights be packed? -/
def pcB (n : Nat) (f : Nat → Nat → Int) (lim : Int) : Bool := decide (n ≤ 20) && allIn n f 0 10000 && inB lim 0 100000 && allIn n f 0 lim
def pcN (n : Nat) (f : Nat → Nat → Int) (lim : Int) : Nat := if pcB n f lim = true then (pcs f lim (ordN f n) n).1 else 0
def pcL (n : Nat) (f : Nat → Nat → Int) (lim : Int) : Nat → List Int := fun j => srtN ((pcs f lim (ordN f n) n).2 j)

end Go.Proofs.Ythnngekibkcgdaa
