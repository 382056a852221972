/-
  Plain facts on the drawn deposits: what the law on deposits asks. Plain.
-/
import Derived.Test.YthnngekibkcgdaaInP
import Derived.Test.YthnngekibkcgdaaTbP
import Derived.Test.YthnngekibkcgdaaAddV
import Derived.Test.YthnngekibkcgdaaCodeA
namespace Go.Proofs.Ythnngekibkcgdaa
open Go.RowKit
set_option linter.unusedVariables false

def FZ (zs : List Int) : Nat → Nat → Int := fun k j => ix zs (k * 3 + j)
theorem addB_FZ (n : Nat) (f : Nat → Nat → Int) (x y z : Int) : addB n f x y z = (depB n f && depB (n + 1) (FZ (addZ n f x y z))) := rfl
/-- A drawn list of deposits: valid, at most k of them, places up to 61. -/
def GoodD (n : Nat) (zs : List Int) (k : Nat) : Prop := zs.length = n * 3 ∧ n ≤ k ∧ depB n (FZ zs) = true ∧ ∀ i, i < n → FZ zs i 0 ≤ 61
theorem flat_FZ {n : Nat} {zs : List Int} (h : zs.length = n * 3) : flat 3 n (FZ zs) = zs := by
  apply ext_ix (by rw [flat_len, h])
  intro i hi
  rw [flat_len] at hi
  have := flat_ix (s := 3) (n := n) (f := FZ zs) (k := i / 3) (j := i % 3) (by omega) (by omega)
  rw [show i / 3 * 3 + i % 3 = i by omega] at this
  rw [this]
  show ix zs (i / 3 * 3 + i % 3) = _
  rw [show i / 3 * 3 + i % 3 = i by omega]
theorem good_nil (k : Nat) : GoodD 0 [] k := ⟨rfl, Nat.zero_le _, depB_yes (by omega) fun j hj => absurd hj (by omega), fun i hi => absurd hi (by omega)⟩
theorem GoodD.more {n : Nat} {zs : List Int} {k k' : Nat} (h : GoodD n zs k) (hk : k ≤ k') : GoodD n zs k' := ⟨h.1, by have := h.2.1; omega, h.2.2⟩
theorem FZ_old {zs r : List Int} {n i j : Nat} (h : zs.length = n * 3) (hi : i < n) (hj : j < 3) : FZ (zs ++ r) i j = FZ zs i j := by
  show ix (zs ++ r) (i * 3 + j) = ix zs (i * 3 + j)
  unfold ix
  rw [List.getD_eq_getElem?_getD, List.getD_eq_getElem?_getD, List.getElem?_append_left (by omega)]
theorem FZ_new {zs : List Int} {n : Nat} {x y z : Int} (h : zs.length = n * 3) : FZ (zs ++ [x, y, z]) n 0 = x ∧ FZ (zs ++ [x, y, z]) n 1 = y ∧ FZ (zs ++ [x, y, z]) n 2 = z := by
  have key : ∀ j, j < 3 → FZ (zs ++ [x, y, z]) n j = ix [x, y, z] j := by
    intro j hj
    show ix (zs ++ [x, y, z]) (n * 3 + j) = _
    unfold ix
    rw [List.getD_eq_getElem?_getD, List.getD_eq_getElem?_getD, List.getElem?_append_right (by omega), h]
    rw [show n * 3 + j - n * 3 = j by omega]
  exact ⟨key 0 (by omega), key 1 (by omega), key 2 (by omega)⟩
theorem depAt_congr {f g : Nat → Nat → Int} {j : Nat} (h : ∀ i, i ≤ j → ∀ c, c < 3 → f i c = g i c) : depAt f j = depAt g j := by
  have e : allB j (fun i => !decide (f i 0 = f j 0)) = allB j (fun i => !decide (g i 0 = g j 0)) := by
    cases q : allB j (fun i => !decide (g i 0 = g j 0))
    · cases p : allB j (fun i => !decide (f i 0 = f j 0))
      · rfl
      · rw [allB_yes (p := fun i => !decide (g i 0 = g j 0)) fun i hi => by
          have := allB_get p hi
          rw [h i (by omega) 0 (by omega), h j (by omega) 0 (by omega)] at this
          exact this] at q
        exact Bool.noConfusion q
    · exact allB_yes fun i hi => by
        have := allB_get q hi
        rw [h i (by omega) 0 (by omega), h j (by omega) 0 (by omega)]
        exact this
  unfold depAt
  rw [e, h j (by omega) 0 (by omega), h j (by omega) 1 (by omega), h j (by omega) 2 (by omega)]
  by_cases q : j = 0
  · simp [q]
  · rw [h (j - 1) (by omega) 2 (by omega)]
theorem goodD_add {n k : Nat} {zs : List Int} {x y z : Int} (h : GoodD n zs k) (hx : x ≤ 61) : GoodD (addN n (FZ zs) x y z) (addL n (FZ zs) x y z) (k + 1) := by
  obtain ⟨h1, h2, h3, h4⟩ := h
  have e := flat_FZ h1
  unfold addN addL
  cases q : addB n (FZ zs) x y z
  · simp only [Bool.false_eq_true, if_false]
    rw [e]
    exact ⟨h1, by omega, h3, h4⟩
  · simp only [if_true]
    have q' := q
    rw [addB_FZ] at q'
    rw [Bool.and_eq_true] at q'
    have e2 : addZ n (FZ zs) x y z = zs ++ [x, y, z] := by unfold addZ; rw [e]
    rw [e2] at q' ⊢
    refine ⟨by simp [h1]; omega, by omega, q'.2, fun i hi => ?_⟩
    by_cases p : i = n
    · rw [p, (FZ_new h1).1]; exact hx
    · rw [FZ_old h1 (by omega) (by omega)]; exact h4 i (by omega)
section
variable {n : Nat} {zs : List Int}
/-- The latest of the first k days, from 0 on. -/
def dayM (f : Nat → Nat → Int) : Nat → Int
  | 0 => 0
  | k + 1 => max (dayM f k) (f k 2)
theorem depB_day {f : Nat → Nat → Int} (h : depB n f = true) {j : Nat} (hj : j < n) : 0 ≤ f j 2 ∧ f j 2 ≤ 9999 := by
  have := depB_at h hj
  unfold fstB inB at this
  simp at this
  omega
theorem dayM_rng {f : Nat → Nat → Int} (h : depB n f = true) : ∀ k, k ≤ n → 0 ≤ dayM f k ∧ dayM f k ≤ 9999
  | 0, _ => by simp [dayM]
  | k + 1, hk => by
    have := dayM_rng h k (by omega)
    have := depB_day h (j := k) (by omega)
    show 0 ≤ max (dayM f k) (f k 2) ∧ max (dayM f k) (f k 2) ≤ 9999
    omega
theorem dayM_ge {f : Nat → Nat → Int} : ∀ k j, j < k → f j 2 ≤ dayM f k
  | 0, j, hj => by omega
  | k + 1, j, hj => by
    show f j 2 ≤ max (dayM f k) (f k 2)
    by_cases e : j = k
    · subst e; omega
    · have := dayM_ge k j (by omega) (f := f); omega
theorem add_ok (h : GoodD n zs 8) : addB n (FZ zs) 150 2 (dayM (FZ zs) n) = true := by
  obtain ⟨h1, h2, h3, h4⟩ := h
  have hr := dayM_rng h3 n (Nat.le_refl _)
  rw [addB_FZ]
  rw [h3, Bool.true_and, show addZ n (FZ zs) 150 2 (dayM (FZ zs) n) = zs ++ [150, 2, dayM (FZ zs) n] by unfold addZ; rw [flat_FZ h1]]
  have hn := FZ_new (x := 150) (y := 2) (z := dayM (FZ zs) n) h1
  refine depB_yes (by omega) fun j hj => ?_
  by_cases e : j = n
  · subst e
    refine depAt_yes ?_ ?_ fun i hi => ?_
    · unfold fstB inB
      rw [show FZ (zs ++ [150, 2, dayM (FZ zs) j]) j 0 = 150 from hn.1, show FZ (zs ++ [150, 2, dayM (FZ zs) j]) j 1 = 2 from hn.2.1, show FZ (zs ++ [150, 2, dayM (FZ zs) j]) j 2 = _ from hn.2.2]
      simp
      omega
    · by_cases z : j = 0
      · exact .inl z
      · right
        have := dayM_ge (f := FZ zs) j (j - 1) (by omega)
        rw [hn.2.2, FZ_old h1 (by omega) (by omega)]
        omega
    · have := h4 i hi
      rw [hn.1, FZ_old h1 hi (by omega)]
      omega
  · have hd : depAt (FZ zs) j = true := by
      cases q : depAt (FZ zs) j
      · rw [depB_no (by omega : j < n) q] at h3; exact Bool.noConfusion h3
      · rfl
    rw [← hd]
    exact depAt_congr fun i hi c hc => FZ_old h1 (by omega) hc
theorem add_is (h : GoodD n zs 8) : addN n (FZ zs) 150 2 (dayM (FZ zs) n) = n + 1 ∧ addL n (FZ zs) 150 2 (dayM (FZ zs) n) = zs ++ [150, 2, dayM (FZ zs) n] ∧ depB (n + 1) (FZ (zs ++ [150, 2, dayM (FZ zs) n])) = true := by
  have q := add_ok h
  unfold addN addL
  rw [q]
  refine ⟨rfl, ?_, ?_⟩
  · rw [if_pos rfl]; unfold addZ; rw [flat_FZ h.1]
  · rw [addB_FZ, Bool.and_eq_true] at q
    have := q.2
    rwa [show addZ n (FZ zs) 150 2 (dayM (FZ zs) n) = zs ++ [150, 2, dayM (FZ zs) n] by unfold addZ; rw [flat_FZ h.1]] at this
theorem take_is (h : GoodD n zs 8) {d : Int} (hd : depB (n + 1) (FZ (zs ++ [150, 2, d])) = true) :
    tbB (n + 1) (FZ (zs ++ [150, 2, d])) 150 = true ∧ tbN (n + 1) (FZ (zs ++ [150, 2, d])) 150 = n ∧ tbL (n + 1) (FZ (zs ++ [150, 2, d])) 150 = zs := by
  obtain ⟨h1, h2, h3, h4⟩ := h
  have hn := FZ_new (x := 150) (y := 2) (z := d) h1
  have hx : tbX (n + 1) (FZ (zs ++ [150, 2, d])) 150 = n := fdx_at (j := n) (by omega) (by simpa using hn.1) fun i hi => by
    have := h4 i hi
    rw [← FZ_old (r := [150, 2, d]) h1 hi (by omega)] at this
    simp only [decide_eq_false_iff_not]
    omega
  have hb : tbB (n + 1) (FZ (zs ++ [150, 2, d])) 150 = true := by unfold tbB; rw [hx, hd]; simp
  refine ⟨hb, ?_, ?_⟩
  · unfold tbN; rw [hb]; rfl
  · unfold tbL
    rw [hb, if_pos rfl, hx, flat_FZ (by simp [h1]; omega)]
    unfold cutD
    rw [Int.toNat_natCast, List.take_append_of_le_length (by omega), List.take_of_length_le (by omega), List.drop_eq_nil_of_le (by simp [h1]), List.append_nil]
theorem take_no (h : GoodD n zs 8) : tbB n (FZ zs) 150 = false := by
  obtain ⟨h1, h2, h3, h4⟩ := h
  have hx : tbX n (FZ zs) 150 = -1 := fdx_none fun i hi => by
    have := h4 i hi
    simp only [decide_eq_false_iff_not]
    omega
  unfold tbB
  rw [hx]
  rfl
theorem new_in (h : GoodD n zs 8) {d : Int} (hd : depB (n + 1) (FZ (zs ++ [150, 2, d])) = true) : (150 : Int) ∈ inL (n + 1) (FZ (zs ++ [150, 2, d])) 2 := by
  have hn := FZ_new (x := 150) (y := 2) (z := d) h.1
  unfold inL
  rw [if_pos hd]
  exact inS_mem.2 (crL_mem.2 ⟨n, by omega, hn.2.1, hn.1⟩)
end
/-- membership, as the program asks it. -/
theorem hasB_mem {l : List Int} {k : Int} (h : k ∈ l) : hasB l.length (fun i _ => ix l i) k = true := by
  obtain ⟨i, hi, e⟩ := List.mem_iff_getElem.1 h
  exact hasB_yes (j := i) hi (by show ix l i = k; rw [ix_get hi, e])
section
variable {n : Nat} {f : Nat → Nat → Int}
theorem us_pos (h : depB n f = true) {k : Nat} (hk : k < (usL n f).length) : 0 < (inL n f (ix (usL n f) k)).length := by
  have hm : ix (usL n f) k ∈ usL n f := by rw [ix_get hk]; exact List.getElem_mem hk
  have hm' : ix (usL n f) k ∈ usB n f 50 := by rw [us_spec h]; exact hm
  exact (usB_mem.1 hm').2.2
theorem us_up {k : Nat} (hk : k + 1 < (usL n f).length) : ix (usL n f) k < ix (usL n f) (k + 1) := by
  have ha : Asc (usL n f) := by
    unfold usL
    split
    · exact usS_asc
    · simp [Asc]
  rw [ix_get (by omega), ix_get hk]
  exact List.pairwise_iff_getElem.1 ha k (k + 1) (by omega) hk (by omega)
theorem bk_mem {c z : Int} : ∀ {k : Nat}, k ≤ n → (z ∈ bkL n f c k ↔ ∃ i, i < n ∧ n - k ≤ i ∧ f i 1 = c ∧ f i 0 = z)
  | 0, _ => by
    simp [bkL]
    intro i h1 h2
    omega
  | k + 1, hk => by
    have ih := bk_mem (c := c) (z := z) (k := k) (by omega)
    unfold bkL
    split
    · rename_i e
      rw [List.mem_append, ih]
      constructor
      · rintro (⟨i, h1, h2, h3⟩ | q)
        · exact ⟨i, h1, by omega, h3⟩
        · exact ⟨n - 1 - k, by omega, by omega, e, by simpa using (Eq.symm (by simpa using q) : f (n - 1 - k) 0 = z)⟩
      · rintro ⟨i, h1, h2, h3, h4⟩
        by_cases q : i = n - 1 - k
        · subst q; right; simp [h4]
        · exact .inl ⟨i, h1, by omega, h3, h4⟩
    · rename_i e
      rw [ih]
      constructor
      · rintro ⟨i, h1, h2, h3⟩; exact ⟨i, h1, by omega, h3⟩
      · rintro ⟨i, h1, h2, h3, h4⟩
        by_cases q : i = n - 1 - k
        · subst q; exact absurd h3 e
        · exact ⟨i, h1, by omega, h3, h4⟩
theorem ro_mem {cs : List Int} {z : Int} {j : Nat} : ∀ {k : Nat}, j < k → z ∈ bkL n f (ix cs j) n → z ∈ roP n f cs k
  | 0, h, _ => by omega
  | k + 1, h, hz => by
    unfold roP
    rw [List.mem_append]
    by_cases e : j = k
    · subst e; exact .inr hz
    · exact .inl (ro_mem (by omega) hz)
theorem ro_has (h : depB n f = true) {k : Nat} (hk : k < (usL n f).length) {z : Int} (hz : z ∈ inL n f (ix (usL n f) k)) : z ∈ roL n f := by
  unfold inL at hz
  rw [if_pos h] at hz
  obtain ⟨i, h1, h2, h3⟩ := crL_mem.1 (inS_mem.1 hz)
  exact ro_mem hk ((bk_mem (Nat.le_refl _)).2 ⟨i, h1, by omega, h2, h3⟩)
/-- How many of the first k lie in crate c. -/
def cntC (f : Nat → Nat → Int) (c : Int) : Nat → Nat
  | 0 => 0
  | k + 1 => if f k 1 = c then cntC f c k + 1 else cntC f c k
theorem crL_cnt (c : Int) : ∀ k, (crL f c k).length = cntC f c k
  | 0 => rfl
  | k + 1 => by
    have := crL_cnt c k
    unfold crL cntC
    split
    · rw [List.length_append, this]; rfl
    · exact this
theorem inL_cnt (h : depB n f = true) (c : Int) : (inL n f c).length = cntC f c n := by
  unfold inL
  rw [if_pos h, ← in_spec h, srtL_len, crL_cnt]
/-- .. of the last k of n. -/
def cntR (n : Nat) (f : Nat → Nat → Int) (c : Int) : Nat → Nat
  | 0 => 0
  | k + 1 => if f (n - 1 - k) 1 = c then cntR n f c k + 1 else cntR n f c k
theorem bkL_cnt (c : Int) : ∀ k, (bkL n f c k).length = cntR n f c k
  | 0 => rfl
  | k + 1 => by
    have := bkL_cnt c k
    unfold bkL cntR
    split
    · rw [List.length_append, this]; rfl
    · exact this
theorem cnt_both (c : Int) : ∀ k, k ≤ n → cntC f c (n - k) + cntR n f c k = cntC f c n
  | 0, _ => by simp [cntR]
  | k + 1, hk => by
    have ih := cnt_both c k (by omega)
    have hs : cntC f c (n - k) = if f (n - (k + 1)) 1 = c then cntC f c (n - (k + 1)) + 1 else cntC f c (n - (k + 1)) := by
      rw [show n - k = (n - (k + 1)) + 1 by omega]
      rfl
    rw [hs] at ih
    show cntC f c (n - (k + 1)) + (if f (n - 1 - k) 1 = c then cntR n f c k + 1 else cntR n f c k) = cntC f c n
    rw [show n - 1 - k = n - (k + 1) by omega]
    by_cases e : f (n - (k + 1)) 1 = c
    · rw [if_pos e] at ih ⊢; omega
    · rw [if_neg e] at ih ⊢; omega
theorem bkL_len_cnt (c : Int) : (bkL n f c n).length = cntC f c n := by
  rw [bkL_cnt]
  have := cnt_both (n := n) (f := f) c n (Nat.le_refl _)
  rw [Nat.sub_self] at this
  have e0 : cntC f c 0 = 0 := rfl
  omega
/-- The sum of g over the first k of cs. -/
def isum (g : Int → Nat) (cs : List Int) : Nat → Nat
  | 0 => 0
  | k + 1 => isum g cs k + g (ix cs k)
theorem isum_cons (g : Int → Nat) (c : Int) (r : List Int) : ∀ k, isum g (c :: r) (k + 1) = g c + isum g r k
  | 0 => by simp [isum, ix]
  | k + 1 => by
    have ih := isum_cons g c r k
    show isum g (c :: r) (k + 1) + g (ix (c :: r) (k + 1)) = g c + (isum g r k + g (ix r k))
    rw [ih, ix_cons]
    omega
theorem isum_all (g : Int → Nat) : ∀ cs : List Int, isum g cs cs.length = (cs.map g).sum
  | [] => rfl
  | c :: r => by
    rw [List.length_cons, isum_cons, isum_all g r]
    simp
theorem isum_le (g : Int → Nat) (b : Nat) (cs : List Int) (h : ∀ c, g c ≤ b) : ∀ k, isum g cs k ≤ k * b
  | 0 => by simp [isum]
  | k + 1 => by
    have := isum_le g b cs h k
    have := h (ix cs k)
    unfold isum
    rw [Nat.succ_mul]; omega
theorem sum_zero : ∀ cs : List Int, (cs.map fun c => cntC f c 0).sum = 0
  | [] => rfl
  | c :: r => by
    have := sum_zero r
    simp only [List.map_cons, List.sum_cons, this]
    rfl
theorem sum_one (x : Int) : ∀ cs : List Int, cs.Nodup → (cs.map fun c => if x = c then 1 else 0).sum = if x ∈ cs then 1 else 0
  | [], _ => rfl
  | c :: r, h => by
    obtain ⟨h1, h2⟩ := List.nodup_cons.1 h
    simp only [List.map_cons, List.sum_cons, sum_one x r h2, List.mem_cons]
    by_cases e : x = c
    · subst e
      simp [h1]
    · simp [e]
theorem sum_add (g h : Int → Nat) : ∀ cs : List Int, (cs.map fun c => g c + h c).sum = (cs.map g).sum + (cs.map h).sum
  | [] => rfl
  | c :: r => by
    have := sum_add g h r
    simp only [List.map_cons, List.sum_cons, this]
    omega
theorem cnt_all {cs : List Int} (hd : cs.Nodup) : ∀ k, (∀ i, i < k → f i 1 ∈ cs) → (cs.map fun c => cntC f c k).sum = k
  | 0, _ => sum_zero cs
  | k + 1, h => by
    have ih := cnt_all hd k fun i hi => h i (by omega)
    have e : (fun c => cntC f c (k + 1)) = fun c => cntC f c k + if f k 1 = c then 1 else 0 := by
      funext c
      show (if f k 1 = c then cntC f c k + 1 else cntC f c k) = _
      split <;> rfl
    rw [e, sum_add, ih, sum_one _ cs hd, if_pos (h k (by omega))]
theorem us_nodup : (usL n f).Nodup := by
  have ha : Asc (usL n f) := by
    unfold usL
    split
    · exact usS_asc
    · simp [Asc]
  exact List.Pairwise.imp (fun h => by omega) ha
theorem us_all (h : depB n f = true) : ∀ i, i < n → f i 1 ∈ usL n f := fun i hi => by
  unfold usL
  rw [if_pos h]
  exact usS_mem.2 ⟨i, hi, rfl⟩
theorem tot_all (h : depB n f = true) : isum (fun c => (inL n f c).length) (usL n f) (usL n f).length = n := by
  rw [isum_all, show (fun c => (inL n f c).length) = fun c => cntC f c n from funext fun c => inL_cnt h c]
  exact cnt_all us_nodup n (us_all h)
theorem roP_isum (cs : List Int) : ∀ k, (roP n f cs k).length = isum (fun c => (bkL n f c n).length) cs k
  | 0 => rfl
  | k + 1 => by
    have := roP_isum cs k
    unfold roP isum
    rw [List.length_append, this]
theorem ro_len (h : depB n f = true) : (roL n f).length = n := by
  unfold roL
  rw [roP_isum, isum_all, show (fun c => (bkL n f c n).length) = fun c => cntC f c n from funext fun c => bkL_len_cnt c]
  exact cnt_all us_nodup n (us_all h)
end

end Go.Proofs.Ythnngekibkcgdaa
