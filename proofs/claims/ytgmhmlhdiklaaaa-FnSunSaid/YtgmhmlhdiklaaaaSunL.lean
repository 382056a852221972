/-
  The law of the spot of light, in plain numbers. Plain.
-/
import Derived.Test.YtgmhmlhdiklaaaaPanM
import Derived.Test.YtgmhmlhdiklaaaaWalkC
import Derived.Test.YtgmhmlhdiklaaaaSmaM
import Derived.Test.YtgmhmlhdiklaaaaDeep
import Derived.Test.YtgmhmlhdiklaaaaGeoM
namespace Go.Proofs.Ytgmhmlhdiklaaaa
open Go.RowKit Ring
set_option linter.unusedVariables false

section
variable {n m : Nat} {P L : Nat → Nat → Int}
/-- Around a face: where a dart ends the next one begins. -/
theorem face_next {k : Nat} (hk : k < (facesV n P m L).length) {i : Nat} (hi : i < ((facesV n P m L).getD k []).length) :
    endN L (((facesV n P m L).getD k []).getD i 0) = orgN L (((facesV n P m L).getD k []).getD ((i + 1) % ((facesV n P m L).getD k []).length) 0) := by
  have hF := facesV_yes (faces_pos (Nat.lt_of_le_of_lt (Nat.zero_le _) hk))
  rw [hF] at hk hi ⊢
  have hrm : (fcs P L m).getD k [] ∈ fcs P L m := by rw [List.getD_eq_getElem?_getD, List.getElem?_eq_getElem hk]; exact List.getElem_mem hk
  obtain ⟨e1, he1, hr⟩ := rnds_mem hrm
  have hb := nxt_bij P L m
  have hper := per_at hb (show e1 < 2 * m by omega)
  rw [hr] at hi ⊢
  rw [rnd_len] at hi ⊢
  rw [rnd_get hi]
  have hlt : it (nxt P L m) e1 i < 2 * m := it_lt hb (by omega) i
  have hstep : nxt P L m (it (nxt P L m) e1 i) = it (nxt P L m) e1 (i + 1) := rfl
  have hend : endN L (it (nxt P L m) e1 i) = orgN L (nxt P L m (it (nxt P L m) e1 i)) := (nxt_org hlt).symm
  rw [hend, hstep]
  by_cases q : i + 1 = per (nxt P L m) (2 * m) e1
  · rw [q, Nat.mod_self, rnd_get (per_pos _ _ _), hper]; rfl
  · rw [Nat.mod_eq_of_lt (by omega), rnd_get (by omega)]
theorem ix_nums {l : List Nat} {k : Nat} (hk : k < l.length) : ix (nums l) k = ((l.getD k 0 : Nat) : Int) := by
  rw [ix_get (by simp [nums]; exact hk), List.getD_eq_getElem?_getD, List.getElem?_eq_getElem hk]
  simp [nums]
/-- One corner's share of the spot. -/
def cornerV (P : Nat → Nat → Int) (a b c z : Int) (i j : Nat) : Int := (P i 0 * b + (z + P i 1) * a) * ((z + P j 1) * c) - (z + P i 1) * c * (P j 0 * b + (z + P j 1) * a)
theorem corner_eq (P : Nat → Nat → Int) (a b c z : Int) (i j : Nat) : cornerV P a b c z i j = b * c * (P i 0 * P j 1 - P i 1 * P j 0) + b * c * z * (P i 0 - P j 0) := by
  unfold cornerV; grind
def spotS (P : Nat → Nat → Int) (a b c z : Int) (l : List Nat) (t : Nat) : Int := psum (fun k => cornerV P a b c z (l.getD k 0) (l.getD ((k + 1) % l.length) 0)) t
theorem psum_add2 (g h : Nat → Int) : ∀ t, psum (fun i => g i + h i) t = psum g t + psum h t
  | 0 => rfl
  | t + 1 => by show psum (fun i => g i + h i) t + (g t + h t) = psum g t + g t + (psum h t + h t); rw [psum_add2 g h t]; omega
theorem psum_mul2 (c : Int) (g : Nat → Int) : ∀ t, psum (fun i => c * g i) t = c * psum g t
  | 0 => by simp [psum]
  | t + 1 => by show psum (fun i => c * g i) t + c * g t = c * (psum g t + g t); rw [psum_mul2 c g t, Int.mul_add]
/-- What a ring adds and takes away is nothing. -/
theorem ring_zero (g : Nat → Int) (N : Nat) : psum (fun k => g k - g ((k + 1) % N)) N = 0 := by
  rcases Nat.eq_zero_or_pos N with rfl | hN
  · rfl
  · have key : ∀ t, t < N → psum (fun k => g k - g ((k + 1) % N)) t = g 0 - g t := by
      intro t
      induction t with
      | zero => intro _; show (0 : Int) = g 0 - g 0; omega
      | succ t ih =>
        intro ht
        show psum _ t + (g t - g ((t + 1) % N)) = _
        rw [ih (by omega), Nat.mod_eq_of_lt ht]; omega
    obtain ⟨M, rfl⟩ : ∃ M, N = M + 1 := ⟨N - 1, by omega⟩
    show psum _ M + (g M - g ((M + 1) % (M + 1))) = 0
    rw [key M (by omega), Nat.mod_self]; omega
/-- The spot has the area of the pane, by the slope of the sun. -/
theorem spot_area {k : Nat} (hk : k < (facesV n P m L).length) (a b c z : Int) : spotS P a b c z (paneN n P m L (k : Int)) (paneN n P m L (k : Int)).length = b * c * faceA n P m L k := by
  have hp := paneN_yes hk
  have hlen : (paneN n P m L (k : Int)).length = ((facesV n P m L).getD k []).length := by rw [hp, List.length_map]
  have hgd : ∀ i, i < ((facesV n P m L).getD k []).length → (paneN n P m L (k : Int)).getD i 0 = orgN L (((facesV n P m L).getD k []).getD i 0) := fun i hi => by
    rw [hp]
    generalize (facesV n P m L).getD k [] = r at hi
    rw [List.getD_eq_getElem?_getD, List.getElem?_map, List.getElem?_eq_getElem hi, List.getD_eq_getElem?_getD, List.getElem?_eq_getElem hi]; rfl
  unfold spotS
  rw [hlen]
  have e1 : psum (fun i => cornerV P a b c z ((paneN n P m L (k : Int)).getD i 0) ((paneN n P m L (k : Int)).getD ((i + 1) % ((facesV n P m L).getD k []).length) 0)) ((facesV n P m L).getD k []).length =
      psum (fun i => b * c * crsD P L (((facesV n P m L).getD k []).getD i 0) + b * c * z * ((fun i => P ((paneN n P m L (k : Int)).getD i 0) 0) i - (fun i => P ((paneN n P m L (k : Int)).getD i 0) 0) ((i + 1) % ((facesV n P m L).getD k []).length))) ((facesV n P m L).getD k []).length := by
    refine psum_congr fun i hi => ?_
    have hm : (i + 1) % ((facesV n P m L).getD k []).length < ((facesV n P m L).getD k []).length := Nat.mod_lt _ (by omega)
    rw [corner_eq, hgd i hi, hgd _ hm, ← face_next hk hi]
    unfold crsD
    show _ = _ + b * c * z * (P ((paneN n P m L (k : Int)).getD i 0) 0 - P ((paneN n P m L (k : Int)).getD ((i + 1) % ((facesV n P m L).getD k []).length) 0) 0)
    rw [hgd i hi, hgd _ hm, ← face_next hk hi]
  rw [e1, psum_add2, psum_mul2, psum_mul2, ring_zero (fun i => P ((paneN n P m L (k : Int)).getD i 0) 0)]
  unfold faceA areaL
  omega
theorem corner_box (hN : NodesOk n P) {a b c z : Int} (ha : -20 ≤ a ∧ a ≤ 20) (hb : 1 ≤ b ∧ b ≤ 30) (hc : 1 ≤ c ∧ c ≤ 20) (hz : 0 ≤ z ∧ z ≤ 255) {i : Nat} (hi : i < n) :
    (-10000 ≤ P i 0 * b + (z + P i 1) * a ∧ P i 0 * b + (z + P i 1) * a ≤ 10000) ∧ (0 ≤ (z + P i 1) * c ∧ (z + P i 1) * c ≤ 5500) ∧ (0 ≤ P i 0 ∧ P i 0 ≤ 20) ∧ (0 ≤ P i 1 ∧ P i 1 ≤ 20) := by
  have r := nodeB_rng (hN.1 i hi)
  have h1 := mul_box (a := P i 0) (b := b) (A := 20) (B := 30) (by omega) (by omega) (by omega) (by omega)
  have h2 := mul_box (a := z + P i 1) (b := a) (A := 275) (B := 20) (by omega) (by omega) (by omega) (by omega)
  have h3 := mul_box (a := z + P i 1) (b := c) (A := 275) (B := 20) (by omega) (by omega) (by omega) (by omega)
  have h4 := Int.mul_nonneg (a := z + P i 1) (b := c) (by omega) (by omega)
  omega
/-- Where the light of a node falls. -/
def spX (P : Nat → Nat → Int) (a b z : Int) (i : Nat) : Int := P i 0 * b + (z + P i 1) * a
def spY (P : Nat → Nat → Int) (c z : Int) (i : Nat) : Int := (z + P i 1) * c
theorem sp_box (hN : NodesOk n P) {a b c z : Int} (ha : -20 ≤ a ∧ a ≤ 20) (hb : 1 ≤ b ∧ b ≤ 30) (hc : 1 ≤ c ∧ c ≤ 20) (hz : 0 ≤ z ∧ z ≤ 255) {i : Nat} (hi : i < n) :
    (-10000 ≤ spX P a b z i ∧ spX P a b z i ≤ 10000) ∧ (0 ≤ spY P c z i ∧ spY P c z i ≤ 5500) :=
  ⟨(corner_box hN ha hb hc hz hi).1, (corner_box hN ha hb hc hz hi).2.1⟩
theorem sp_prod {x y : Int} (hx : -10000 ≤ x ∧ x ≤ 10000) (hy : 0 ≤ y ∧ y ≤ 5500) : (-55000000 ≤ x * y ∧ x * y ≤ 55000000) ∧ (-55000000 ≤ y * x ∧ y * x ≤ 55000000) := by
  have h1 := mul_box (a := y) (b := x) (A := 5500) (B := 10000) (by omega) (by omega) (by omega) (by omega)
  rw [Int.mul_comm x y]
  omega
theorem corner_sp (a b c z : Int) (i j : Nat) : cornerV P a b c z i j = spX P a b z i * spY P c z j - spY P c z i * spX P a b z j := rfl
theorem spotS_rng (hN : NodesOk n P) {a b c z : Int} (ha : -20 ≤ a ∧ a ≤ 20) (hb : 1 ≤ b ∧ b ≤ 30) (hc : 1 ≤ c ∧ c ≤ 20) (hz : 0 ≤ z ∧ z ≤ 255) {l : List Nat} (hl : ∀ j, j < l.length → l.getD j 0 < n) :
    ∀ t, t ≤ l.length → -110000000 * (t : Int) ≤ spotS P a b c z l t ∧ spotS P a b c z l t ≤ 110000000 * (t : Int)
  | 0, _ => by simp [spotS, psum]
  | t + 1, ht => by
    have ih := spotS_rng hN ha hb hc hz hl t (by omega)
    have h1 := hl t (by omega)
    have h2 := hl ((t + 1) % l.length) (Nat.mod_lt _ (by omega))
    have b1 := sp_box hN ha hb hc hz h1
    have b2 := sp_box hN ha hb hc hz h2
    have p1 := (sp_prod b1.1 b2.2).1
    have p2 := (sp_prod b2.1 b1.2).2
    have e : spotS P a b c z l (t + 1) = spotS P a b c z l t + (spX P a b z (l.getD t 0) * spY P c z (l.getD ((t + 1) % l.length) 0) - spY P c z (l.getD t 0) * spX P a b z (l.getD ((t + 1) % l.length) 0)) := rfl
    rw [e]
    omega
theorem spotS_step (a b c z : Int) (l : List Nat) (t : Nat) : spotS P a b c z l (t + 1) = spotS P a b c z l t + (spX P a b z (l.getD t 0) * spY P c z (l.getD ((t + 1) % l.length) 0) - spY P c z (l.getD t 0) * spX P a b z (l.getD ((t + 1) % l.length) 0)) := rfl
theorem sun_ok {a b c : Int} (ha : -20 ≤ a ∧ a ≤ 20) (hb : 1 ≤ b ∧ b ≤ 30) (hc : 1 ≤ c ∧ c ≤ 20) : sunB a b c = true := by
  unfold sunB
  rw [inB_yes (by omega), inB_yes (by omega), inB_yes (by omega)]; rfl
theorem faces_some (hw : wholeB n P m L = true) : 0 < (facesV n P m L).length := by
  obtain ⟨hwin, hm, hall⟩ := wholeB_get hw
  obtain ⟨f0, h1, _⟩ := faces_sign hwin hall hm
  rw [facesV_yes hw]
  omega
/-- The numbers of the law of the spot of light. -/
theorem sun_law (hw : wholeB n P m L = true) {f : Nat} (hf : f < (facesV n P m L).length) {a b c z : Int} (ha : -20 ≤ a ∧ a ≤ 20) (hb : 1 ≤ b ∧ b ≤ 30) (hc : 1 ≤ c ∧ c ≤ 20) (hz : 0 ≤ z ∧ z ≤ 255) :
    ∃ (A : Int) (dp : Nat), spotV n P m L (f : Int) z a b c = .tuple #[.int .i64 A, .int .i64 b, .bool true] ∧ areaV n P m L (f : Int) * c = A ∧ (0 ≤ A ∧ A ≤ 320000) ∧ (0 ≤ areaV n P m L (f : Int) ∧ areaV n P m L (f : Int) ≤ 16000) ∧ (0 ≤ A * b ∧ A * b ≤ 9600000) ∧
      deepV n P m L z a b c = (dp : Nat) ∧ dp < n ∧
      (spotS P a b c z (paneN n P m L (f : Int)) (paneN n P m L (f : Int)).length = A * b ∨ spotS P a b c z (paneN n P m L (f : Int)) (paneN n P m L (f : Int)).length = - (A * b)) ∧
      (∀ k, k < n → spY P c z k ≤ spY P c z dp) := by
  obtain ⟨hwin, _, _⟩ := wholeB_get hw
  obtain ⟨hsz, hN, _⟩ := winB_get hwin
  have hs := sun_ok ha hb hc
  have hA := areaV_yes hf
  have hR := areaV_rng (n := n) (m := m) (P := P) (L := L) (f : Int)
  have hA0 : 0 ≤ areaV n P m L (f : Int) := by rw [hA]; unfold absI; omega
  have hzz : inB z 0 1000 = true := inB_yes (by omega)
  have hAc := mul_box (a := areaV n P m L (f : Int)) (b := c) (A := 16000) (B := 20) (by omega) (by omega) (by omega) (by omega)
  have hAc0 := Int.mul_nonneg (a := areaV n P m L (f : Int)) (b := c) hA0 (by omega)
  have hAb := mul_box (a := areaV n P m L (f : Int) * c) (b := b) (A := 320000) (B := 30) (by omega) (by omega) (by omega) (by omega)
  have hAb0 := Int.mul_nonneg (a := areaV n P m L (f : Int) * c) (b := b) hAc0 (by omega)
  refine ⟨areaV n P m L (f : Int) * c, bestTo (fun k => P k 1) n, ?_, rfl, by omega, by omega, by omega, deepV_yes (by rw [hwin, hs, hzz]; rfl), ?_, ?_, ?_⟩
  · unfold spotV
    rw [if_pos (by rw [hs, hzz, decide_eq_true hA0]; rfl)]
  · have := bestTo_lt (fun k => P k 1) n; omega
  · rw [spot_area hf, hA]
    unfold absI
    have e : b * c * faceA n P m L f = faceA n P m L f * c * b := by grind
    rw [e]
    rcases Int.le_total 0 (faceA n P m L f) with g | g
    · left; rw [show max (faceA n P m L f) (-faceA n P m L f) = faceA n P m L f by omega]
    · right; rw [show max (faceA n P m L f) (-faceA n P m L f) = -faceA n P m L f by omega, Int.neg_mul, Int.neg_mul, Int.neg_neg]
  · intro k hk
    unfold spY
    exact Int.mul_le_mul_of_nonneg_right (by have h : P k 1 ≤ P (bestTo (fun k => P k 1) n) 1 := bestTo_max (g := fun k => P k 1) hk; omega) (by omega)
theorem room_law (hN : NodesOk n P) {a b c z r : Int} (ha : -20 ≤ a ∧ a ≤ 20) (hb : 1 ≤ b ∧ b ≤ 30) (hc : 1 ≤ c ∧ c ≤ 20) (hz : 0 ≤ z ∧ z ≤ 255) (hr : 0 ≤ r ∧ r < 1000) {i : Nat} (hi : i < n) :
    roomB (P i 0) (P i 1) z a b c r = decide (spY P c z i ≤ r * b) := by
  unfold roomB spY
  rw [hN.1 i hi, sun_ok ha hb hc, inB_yes (show 0 ≤ z ∧ z ≤ 1000 by omega), inB_yes (show 0 ≤ r ∧ r ≤ 1000 by omega)]
  simp
end
end Go.Proofs.Ytgmhmlhdiklaaaa
