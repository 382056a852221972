/-
  The law of restoration, in plain numbers. Plain.
-/
import Derived.Test.YtgmhmlhdiklaaaaSixM
import Derived.Test.YtgmhmlhdiklaaaaHisM
import Derived.Test.YtgmhmlhdiklaaaaHasM
namespace Go.Proofs.Ytgmhmlhdiklaaaa
open Go.RowKit Ring
set_option linter.unusedVariables false

theorem lsum_append (g : Nat → Int) : ∀ a b : List Nat, lsum g (a ++ b) = lsum g a + lsum g b
  | [], b => by show lsum g b = 0 + lsum g b; omega
  | x :: a, b => by show g x + lsum g (a ++ b) = g x + lsum g a + lsum g b; rw [lsum_append g a b]; omega
theorem psum_flat (g : Nat → Int) : ∀ R : List (List Nat), psum (fun f => lsum g (R.getD f [])) R.length = lsum g R.flatten
  | [] => rfl
  | r :: R => by
    show psum (fun f => lsum g ((r :: R).getD f [])) (R.length + 1) = _
    rw [psum_cons, List.flatten_cons, lsum_append, ← psum_flat g R]
    rfl
theorem psum_one {g h : Nat → Int} {f : Nat} (hne : ∀ k, k ≠ f → h k = g k) : ∀ N, psum h N = if f < N then psum g N - g f + h f else psum g N
  | 0 => by simp [psum]
  | N + 1 => by
    have ih := psum_one hne N
    show psum h N + h N = if f < N + 1 then psum g N + g N - g f + h f else psum g N + g N
    rw [ih]
    by_cases q : f = N
    · subst q
      rw [if_neg (by omega), if_pos (by omega)]; omega
    · have := hne N (fun e => q e.symm)
      by_cases p : f < N
      · rw [if_pos p, if_pos (by omega)]; omega
      · rw [if_neg p, if_neg (by omega)]; omega
section
variable {n m : Nat} {P L : Nat → Nat → Int}
theorem crsD_tw (d : Nat) : crsD P L (tw d) = - crsD P L d := by
  unfold crsD endN
  rw [tw_tw]
  grind
/-- The faces' signed areas sum up to nothing. -/
theorem areas_zero (hw : wholeB n P m L = true) : psum (faceA n P m L) (facesV n P m L).length = 0 := by
  have hF := facesV_yes hw
  have e1 : psum (faceA n P m L) (facesV n P m L).length = psum (fun f => lsum (crsD P L) ((fcs P L m).getD f [])) (fcs P L m).length := by
    rw [hF]
    refine congrFun (congrArg psum ?_) _
    funext f
    unfold faceA areaL
    rw [hF, psum_list]
  rw [e1, psum_flat]
  have hlt : ∀ x ∈ (fcs P L m).flatten, x < 2 * m := fun x hx => by
    obtain ⟨r, hr, hx2⟩ := List.mem_flatten.1 hx
    exact fcs_lt hr hx2
  rw [← lsum_ind (crsD P L) (2 * m) _ fcs_nodup hlt]
  have e2 : Geo.sumN (fun d => (if d ∈ (fcs P L m).flatten then 1 else 0) * crsD P L d) (2 * m) = Geo.sumN (crsD P L) (2 * m) :=
    Geo.sumN_congr fun d hd => by rw [if_pos (fcs_all hd)]; omega
  rw [e2, Geo.sumN_pairs]
  refine Geo.sumN_zero fun l hl => ?_
  have e3 : tw (2 * l) = 2 * l + 1 := tw_even (by omega)
  have := crsD_tw (P := P) (L := L) (2 * l)
  rw [e3] at this
  omega
theorem psum_pos {g : Nat → Int} {k : Nat} : ∀ N, (∀ f, f < N → f ≠ k → 0 < g f) → g k ≤ 0 → psum (fun f => max 0 (g f)) N = psum g N - (if k < N then g k else 0)
  | 0, _, _ => by simp [psum]
  | N + 1, h1, h2 => by
    have ih := psum_pos N (fun f hf => h1 f (by omega)) h2
    show psum (fun f => max 0 (g f)) N + max 0 (g N) = psum g N + g N - (if k < N + 1 then g k else 0)
    rw [ih]
    by_cases q : k = N
    · subst q
      rw [if_neg (by omega), if_pos (by omega)]; omega
    · have := h1 N (by omega) (fun e => q e.symm)
      by_cases p : k < N
      · rw [if_pos p, if_pos (by omega)]; omega
      · rw [if_neg p, if_neg (by omega)]; omega
/-- How the history stands after j tries. -/
def Hist (n : Nat) (P : Nat → Nat → Int) (m : Nat) (L : Nat → Nat → Int) (s : Int) (j : Nat) (zs : List Int) (done : Int) : Prop :=
  zs.length = (facesV n P m L).length ∧ (∀ i, i < zs.length → ix zs i = 0 ∨ (1900 ≤ ix zs i ∧ ix zs i < 1900 + j)) ∧ (∀ k : Nat, outerV n P m L = k → ix zs k = 0) ∧ 0 ≤ done ∧
    origV n P m L zs.length (fun i _ => ix zs i) = totalV n P m L - done ∧ s * totalV n P m L ≤ 100 * origV n P m L zs.length (fun i _ => ix zs i)
theorem Hist.ok {s : Int} {j : Nat} {zs : List Int} {done : Int} (hw : wholeB n P m L = true) (hj : j ≤ 8) (h : Hist n P m L s j zs done) : histB n P m L zs.length (fun i _ => ix zs i) = true := by
  unfold histB
  rw [Bool.and_eq_true, Bool.and_eq_true]
  refine ⟨⟨hw, decide_eq_true (by rw [h.1])⟩, allB_yes fun i hi => inB_yes ?_⟩
  have := h.2.1 i hi
  show 0 ≤ ix zs i ∧ ix zs i ≤ 3000
  omega
theorem zeros_hist (N : Nat) (hw : wholeB n P m L = true) (hN : N = (facesV n P m L).length) : histB n P m L (tab N fun _ => 0).length (fun i _ => ix (tab N fun _ => 0) i) = true := by
  unfold histB
  rw [Bool.and_eq_true, Bool.and_eq_true]
  refine ⟨⟨hw, by simp [tab, hN]⟩, allB_yes fun i hi => inB_yes ?_⟩
  rw [tab_len] at hi
  show 0 ≤ ix (tab N fun _ => 0) i ∧ ix (tab N fun _ => 0) i ≤ 3000
  rw [tab_ix hi]; omega
/-- At first. -/
theorem hist_start (hw : wholeB n P m L = true) {N : Nat} (hN : N = (facesV n P m L).length) {s : Int} (hs : 0 ≤ s ∧ s ≤ 100) : Hist n P m L s 0 (tab N fun _ => 0) 0 ∧ 0 ≤ totalV n P m L ∧ totalV n P m L ≤ 16000 := by
  obtain ⟨k, hk, ho, hneg, hpos⟩ := wall_only hw
  have hT : totalV n P m L = - faceA n P m L k := by
    unfold totalV
    rw [ho, areaV_yes hk]
    unfold absI; omega
  have hb := faceA_box hk
  have hor : origV n P m L (tab N fun _ => 0).length (fun i _ => ix (tab N fun _ => 0) i) = totalV n P m L := by
    rw [origV_yes (zeros_hist N hw hN), tab_len]
    have e : psum (origG n P m L fun i _ => ix (tab N fun _ => 0) i) N = psum (fun f => max 0 (faceA n P m L f)) N := by
      subst hN
      have key : ∀ t, t ≤ (facesV n P m L).length → psum (origG n P m L fun i _ => ix (tab (facesV n P m L).length fun _ => 0) i) t = psum (fun f => max 0 (faceA n P m L f)) t := by
        intro t
        induction t with
        | zero => intro _; rfl
        | succ t ih =>
          intro ht
          show psum _ t + _ = psum _ t + _
          rw [ih (by omega), orig_new (show (fun i _ => ix (tab (facesV n P m L).length fun _ => 0) i : Nat → Nat → Int) t 0 = 0 from tab_ix (by omega))]
      exact key _ (Nat.le_refl _)
    rw [e, hN, psum_pos (k := k) _ (fun f hf hne => (hpos f hf hne).1) hneg, areas_zero hw, if_pos hk, hT]
    omega
  refine ⟨⟨by rw [tab_len, hN], fun i hi => .inl (by rw [tab_len] at hi; exact tab_ix hi), fun k' hk' => ?_, by omega, by rw [hor]; omega, ?_⟩, by omega, by omega⟩
  · have : k' = k := by omega
    subst this
    exact tab_ix (by omega)
  · rw [hor]
    have e : s * totalV n P m L ≤ 100 * totalV n P m L := Int.mul_le_mul_of_nonneg_right hs.2 (by omega)
    exact e
theorem lst_zero {o : Int} {N : Nat} : ∀ t, t ≤ N → (lstF o (fun i _ => ix (tab N fun _ => 0) i) t = 3001 ∧ (∀ i : Nat, i < t → (i : Int) = o)) ∨ lstF o (fun i _ => ix (tab N fun _ => 0) i) t = 0
  | 0, _ => .inl ⟨rfl, fun i hi => absurd hi (Nat.not_lt_zero _)⟩
  | t + 1, ht => by
    have h0 : ix (tab N fun _ => 0) t = 0 := tab_ix (by omega)
    by_cases q : (t : Int) = o
    · rw [lstF_out q]
      rcases lst_zero (o := o) (N := N) t (by omega) with ⟨h1, h2⟩ | h1
      · refine .inl ⟨h1, fun i hi => ?_⟩
        by_cases e : i = t
        · subst e; exact q
        · exact h2 i (by omega)
      · exact .inr h1
    · right
      rw [lstF_new q (by rw [h0]; rcases lst_zero (o := o) (N := N) t (by omega) with ⟨h1, _⟩ | h1 <;> rw [h1] <;> omega), h0]
theorem cnt_but (k : Nat) : ∀ N, Net.cnt (fun i => !decide (i = k)) N = if k < N then N - 1 else N
  | 0 => rfl
  | N + 1 => by
    have ih := cnt_but k N
    show Net.cnt _ N + (if (!decide (N = k)) = true then 1 else 0) = _
    rw [ih]
    by_cases q : N = k
    · subst q; simp
    · by_cases p : k < N
      · rw [if_pos p, if_pos (by simpa using q), if_pos (by omega)]; omega
      · rw [if_neg p, if_pos (by simpa using q), if_neg (by omega)]
/-- All faces but the outer one are the oldest. -/
theorem old_start (hw : wholeB n P m L = true) {N : Nat} (hN : N = (facesV n P m L).length) : (oldV n P m L (tab N fun _ => 0).length (fun i _ => ix (tab N fun _ => 0) i)).length = N - 1 := by
  obtain ⟨k, hk, ho, _, _⟩ := wall_only hw
  rw [oldV_yes (zeros_hist N hw hN), tab_len]
  have e : pick N (oldP (outerV n P m L) (lstF (outerV n P m L) (fun i _ => ix (tab N fun _ => 0) i) N) (fun i _ => ix (tab N fun _ => 0) i)) = pick N (fun i => !decide (i = k)) := by
    refine pick_congr fun i hi => ?_
    have h0 : (fun i _ => ix (tab N fun _ => 0) i : Nat → Nat → Int) i 0 = 0 := tab_ix hi
    unfold oldP
    rw [h0, ho]
    by_cases q : i = k
    · subst q; simp
    · have q2 : ¬ (i : Int) = (k : Int) := by omega
      rcases lst_zero (o := (k : Int)) (N := N) N (Nat.le_refl _) with ⟨_, h2⟩ | h2
      · exact absurd (h2 i hi) q2
      · rw [h2]; simp [q, q2]
  rw [e, pick_len_cnt, cnt_but, if_pos (by omega)]
/-- One more try. -/
theorem hist_step (hw : wholeB n P m L = true) {s : Int} (hs : 0 ≤ s ∧ s ≤ 100) {j : Nat} (hj : j < 8) {zs : List Int} {done : Int} (h : Hist n P m L s j zs done) {f : Nat} (hf : f < (facesV n P m L).length) :
    replB n P m L zs.length (fun i _ => ix zs i) f (1900 + j) s = mayB n P m L zs.length (fun i _ => ix zs i) f s ∧
    (mayB n P m L zs.length (fun i _ => ix zs i) f s = false → replL n P m L zs.length (fun i _ => ix zs i) f (1900 + j) s = zs ∧ Hist n P m L s (j + 1) zs done) ∧
    (mayB n P m L zs.length (fun i _ => ix zs i) f s = true → replL n P m L zs.length (fun i _ => ix zs i) f (1900 + j) s = zs.set f (1900 + j) ∧ ix (zs.set f (1900 + j)) f = 1900 + j ∧
      (ix zs f = 0 → Hist n P m L s (j + 1) (zs.set f (1900 + j)) (done + areaV n P m L f)) ∧ (ix zs f ≠ 0 → Hist n P m L s (j + 1) (zs.set f (1900 + j)) done)) := by
  obtain ⟨h1, h2, h3, h4, h5, h6⟩ := h
  have hH : Hist n P m L s j zs done := ⟨h1, h2, h3, h4, h5, h6⟩
  have hok := hH.ok hw (by omega)
  obtain ⟨k, hk, ho, hneg, hpos⟩ := wall_only hw
  have htab : (tab zs.length fun i => ix zs i) = zs := by
    apply ext_ix (by rw [tab_len])
    intro i hi
    rw [tab_len] at hi
    exact tab_ix hi
  have hfz : ix zs f ≤ 1900 + j := by have := h2 f (by omega); omega
  have hrep : replB n P m L zs.length (fun i _ => ix zs i) f (1900 + j) s = mayB n P m L zs.length (fun i _ => ix zs i) f s := by
    unfold replB
    rw [inB_yes (show (1 : Int) ≤ 1900 + j ∧ (1900 : Int) + j ≤ 3000 by omega), Bool.and_true]
    rw [decide_eq_true (show (fun i _ => ix zs i : Nat → Nat → Int) ((f : Int)).toNat 0 ≤ 1900 + (j : Int) by rw [Int.toNat_natCast]; exact hfz), Bool.and_true]
  refine ⟨hrep, fun hm => ?_, fun hm => ?_⟩
  · unfold replL
    rw [hrep, if_neg (by rw [hm]; simp)]
    exact ⟨htab, h1, fun i hi => by have := h2 i hi; omega, h3, h4, h5, h6⟩
  · have hset : replL n P m L zs.length (fun i _ => ix zs i) f (1900 + j) s = zs.set f (1900 + j) := by
      unfold replL
      rw [hrep, if_pos hm, htab, Int.toNat_natCast]
    have hfl : f < zs.length := by omega
    have hixf : ix (zs.set f (1900 + (j : Int))) f = 1900 + j := by
      rw [ix_get (by simpa using hfl)]; simp
    have hixo : ∀ i, i ≠ f → ix (zs.set f (1900 + (j : Int))) i = ix zs i := by
      intro i hi
      by_cases q : i < zs.length
      · rw [ix_get (by simpa using q), ix_get q, List.getElem_set_ne (Ne.symm hi)]
      · rw [ix_out (by simpa using q), ix_out (by omega)]
    have hm2 := hm
    unfold mayB mayG at hm2
    rw [Bool.and_eq_true, Bool.and_eq_true, Bool.and_eq_true, Bool.and_eq_true] at hm2
    have hfk : f ≠ k := by
      have := hm2.1.1.2
      rw [ho] at this
      simp at this; omega
    obtain ⟨g1, g2⟩ := hpos f hf hfk
    have hlen : (zs.set f (1900 + (j : Int))).length = zs.length := by simp
    have hr' : ∀ i, i < (zs.set f (1900 + (j : Int))).length → ix (zs.set f (1900 + (j : Int))) i = 0 ∨ (1900 ≤ ix (zs.set f (1900 + (j : Int))) i ∧ ix (zs.set f (1900 + (j : Int))) i < 1900 + ((j + 1 : Nat) : Int)) := by
      intro i hi
      rw [hlen] at hi
      by_cases q : i = f
      · subst q; rw [hixf]; right; omega
      · rw [hixo i q]
        have := h2 i hi; omega
    have hk' : ∀ k' : Nat, outerV n P m L = k' → ix (zs.set f (1900 + (j : Int))) k' = 0 := by
      intro k' e
      have : k' = k := by omega
      subst this
      rw [hixo _ (Ne.symm hfk)]; exact h3 _ e
    have hok' : histB n P m L (zs.set f (1900 + (j : Int))).length (fun i _ => ix (zs.set f (1900 + (j : Int))) i) = true := by
      unfold histB
      rw [Bool.and_eq_true, Bool.and_eq_true]
      refine ⟨⟨hw, decide_eq_true (by rw [hlen, h1])⟩, allB_yes fun i hi => inB_yes ?_⟩
      have := hr' i hi
      show 0 ≤ ix (zs.set f (1900 + (j : Int))) i ∧ ix (zs.set f (1900 + (j : Int))) i ≤ 3000
      omega
    have hps := psum_one (g := origG n P m L fun i _ => ix zs i) (h := origG n P m L fun i _ => ix (zs.set f (1900 + (j : Int))) i) (f := f) (fun i hi => by
      show (if ix (zs.set f (1900 + (j : Int))) i = 0 then max 0 (faceA n P m L i) else 0) = (if ix zs i = 0 then max 0 (faceA n P m L i) else 0)
      rw [hixo i hi]) zs.length
    rw [if_pos hfl] at hps
    have hnew : origG n P m L (fun i _ => ix (zs.set f (1900 + (j : Int))) i) f = 0 := orig_old (by rw [hixf]; omega)
    have ho1 := origV_yes hok
    have ho2 := origV_yes hok'
    rw [hlen] at ho2
    rw [hnew] at hps
    refine ⟨hset, hixf, fun hz => ?_, fun hz => ?_⟩
    · have hold : origG n P m L (fun i _ => ix zs i) f = faceA n P m L f := by
        rw [orig_new hz]; omega
      have hs2 := hm2.2
      rw [Int.toNat_natCast] at hs2
      have hs3 : s * totalV n P m L ≤ 100 * (origV n P m L zs.length (fun i _ => ix zs i) - areaV n P m L f) := by
        simp [hz] at hs2
        exact hs2
      refine ⟨by rw [hlen]; exact h1, hr', hk', by omega, ?_, ?_⟩
      · rw [hlen, ho2, hps, hold, ← ho1, h5]; omega
      · rw [hlen, ho2, hps, hold, ← ho1]
        rw [g2] at hs3
        omega
    · have hold : origG n P m L (fun i _ => ix zs i) f = 0 := orig_old hz
      refine ⟨by rw [hlen]; exact h1, hr', hk', h4, ?_, ?_⟩
      · rw [hlen, ho2, hps, hold, ← ho1, h5]; omega
      · rw [hlen, ho2, hps, hold, ← ho1]
        omega
theorem may_outer (nh : Nat) (fh : Nat → Nat → Int) (s : Int) : mayB n P m L nh fh (outerV n P m L) s = false := by
  unfold mayB mayG
  simp
end
end Go.Proofs.Ytgmhmlhdiklaaaa
