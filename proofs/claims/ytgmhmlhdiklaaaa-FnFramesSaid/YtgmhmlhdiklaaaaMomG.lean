/-
  The middle of weight of a window lies in the box of its outer face. Plain.
-/
import Derived.Test.YtgmhmlhdiklaaaaGeoH
import Derived.Test.YtgmhmlhdiklaaaaGeoM
import Derived.Test.YtgmhmlhdiklaaaaMidM
namespace Go.Proofs.Ytgmhmlhdiklaaaa
namespace Geo
open Ring
section
variable {n m : Nat} {t s : Nat → Int} {a b : Nat → Nat} {c : Nat → Int} {L : Int} {F : Nat → Int} {nx : Nat → Nat}
theorem sum_anti (h : Dr n m t s (lo' t a b) (hi' t a b) c L) (g : Nat → Int) (hg : ∀ d, d < 2 * m → g (tw d) = - g d) : sumN (fun d => F d * g d) (2 * m) = sumN (fun l => sig t a b F l * g (rd t a b l)) m := by
  rw [sum_darts (t := t) (a := a) (b := b)]
  refine sumN_congr fun l hl => ?_
  have hrk : rd t a b l < 2 * m := by unfold rd; split <;> omega
  rw [hg _ hrk]
  unfold sig tau
  grind
/-- The moment of the outer face's flow about a line that its nodes do not cross. -/
theorem moment_sign (h : Dr n m t s (lo' t a b) (hi' t a b) c L) (hb : Bij nx (2 * m)) (hf : ∀ d, d < 2 * m → fr a b (nx d) = fr a b (tw d)) (hF : ∀ d, d < 2 * m → F (nx d) = F d) (hP : ∀ d, d < 2 * m → Prev m t s a b c (fr a b (tw d)) (nx d) (tw d))
    (ring : Nat → List Nat) (hr1 : ∀ v d, d ∈ ring v ↔ d < 2 * m ∧ fr a b d = v) (hr2 : ∀ v, (ring v).Nodup) (hr3 : ∀ d, d < 2 * m → nx d = prd (ring (fr a b (tw d))) (tw d))
    (hw : ∀ i, i < n → Net.lab a b m i = 0) (h01 : ∀ d, d < 2 * m → F d = 0 ∨ F d = 1)
    {o : Nat} (ho : o < 2 * m) (hmin : ∀ e, e < 2 * m → t (fr a b o) ≤ t (fr a b e)) (hfst : ∀ e, e < 2 * m → fr a b e = fr a b o → ¬ Bef t s a b c (fr a b o) e o) (h1 : F (tw o) = 1)
    (u v : Int) {e : Int} (he : e = 1 ∨ e = -1) (hz : ∀ d, d < 2 * m → F d = 1 → 0 ≤ e * zv t s L u v (fr a b d) ∧ 0 ≤ e * zv t s L u v (fr a b (tw d))) :
    0 ≤ e * sumN (fun d => F d * ((t (fr a b (tw d)) - t (fr a b d)) * q3 (zv t s L u v (fr a b d)) (zv t s L u v (fr a b (tw d))))) (2 * m) := by
  have hC := circ_of h hb hf hF
  have hg := gap_outer h hC ho hmin hfst
  have hrl : ∀ k, k < m → rd t a b k < 2 * m := fun k hk => by unfold rd; split <;> omega
  have hH : ∀ k, k < m → H m t s (lo' t a b) (hi' t a b) c (sig t a b F) k = F (rd t a b k) - F (tw o) := by
    intro k hk
    have g1 := gap_all h hb hf hF hP ring hr1 hr2 hr3 hw (hrl k hk) ho
    rw [hg] at g1
    unfold gap hL at g1
    have hrt : rt t a b (rd t a b k) = true := by
      have hlt := h.lt k hk
      unfold rt
      rw [(rd_fr h hk).1, (rd_fr h hk).2]
      simpa using hlt
    rw [if_pos hrt, rd_half] at g1
    omega
  have hmom := moment h hC (fun k hk x hx1 hx2 => by
    rw [H_any h hC hk hx1 hx2, hH k hk]
    have := h01 _ (hrl k hk)
    omega) u v he (fun l hl hs => by
    have hfr := rd_fr h hl
    rw [← hfr.1, ← hfr.2]
    rcases h01 _ (hrl l hl) with q | q
    · rcases h01 _ (tw_lt (hrl l hl)) with q2 | q2
      · exfalso; apply hs; unfold sig tau; omega
      · have := hz _ (tw_lt (hrl l hl)) q2
        rw [tw_tw] at this
        exact ⟨this.2, this.1⟩
    · exact hz _ (hrl l hl) q)
  rw [sum_anti h (fun d => (t (fr a b (tw d)) - t (fr a b d)) * q3 (zv t s L u v (fr a b d)) (zv t s L u v (fr a b (tw d)))) (fun d _ => by rw [tw_tw]; unfold q3; grind)]
  refine Int.le_trans hmom (Int.le_of_eq ?_)
  congr 1
  refine sumN_congr fun l hl => ?_
  rw [(rd_fr h hl).1, (rd_fr h hl).2]
end
end Geo
open Go.RowKit Ring
set_option linter.unusedVariables false

theorem polyX (Q x Xa Ya Xb Yb : Int) : ((21 * Yb + Xb) - (21 * Ya + Xa)) * Geo.q3 (Q * -Xa + Q * x + 0 * (21 * Ya + Xa)) (Q * -Xb + Q * x + 0 * (21 * Yb + Xb)) =
    21 * (Q * Q) * ((Xa + Xb) * (Xa * Yb - Ya * Xb) - 3 * x * (Xa * Yb - Ya * Xb)) +
      (Q * Q * (2 * x * x * (21 * Yb + Xb) - x * Xb * Xb - 21 * x * Xb * Yb + (21 * Yb + Xb) * (x - Xb) * (x - Xb)) - Q * Q * (2 * x * x * (21 * Ya + Xa) - x * Xa * Xa - 21 * x * Xa * Ya + (21 * Ya + Xa) * (x - Xa) * (x - Xa))) := by
  unfold Geo.q3; grind
theorem polyY (Q y Xa Ya Xb Yb : Int) : ((21 * Yb + Xb) - (21 * Ya + Xa)) * Geo.q3 (Q * -Xa + -21 * y * Q + Q * (21 * Ya + Xa)) (Q * -Xb + -21 * y * Q + Q * (21 * Yb + Xb)) =
    -441 * (Q * Q) * ((Ya + Yb) * (Xa * Yb - Ya * Xb) - 3 * y * (Xa * Yb - Ya * Xb)) +
      (441 * (Q * Q) * (2 * y * y * (21 * Yb + Xb) - 21 * y * Yb * Yb - y * Xb * Yb + (21 * Yb + Xb) * (Yb - y) * (Yb - y)) - 441 * (Q * Q) * (2 * y * y * (21 * Ya + Xa) - 21 * y * Ya * Ya - y * Xa * Ya + (21 * Ya + Xa) * (Ya - y) * (Ya - y))) := by
  unfold Geo.q3; grind
section
variable {n m : Nat} {P L : Nat → Nat → Int}
theorem moment_face (h : winB n P m L = true) (hw : ∀ i, i < n → Net.lab (fromN L) (toN L) m i = 0) (hm : 0 < m) {f : Nat} (hf : f < (fcs P L m).length) (hneg : areaL P L ((fcs P L m).getD f []) ≤ 0)
    {j : Nat} (hj : j = 0 ∨ j = 1) {lo hi : Int} (hbox : ∀ x ∈ (fcs P L m).getD f [], lo ≤ P (orgN L x) j ∧ P (orgN L x) j ≤ hi) :
    3 * lo * -areaL P L ((fcs P L m).getD f []) ≤ -lsum (momD P L j) ((fcs P L m).getD f []) ∧ -lsum (momD P L j) ((fcs P L m).getD f []) ≤ 3 * hi * -areaL P L ((fcs P L m).getD f []) := by
  obtain ⟨Q, hQ, hdiv⟩ := big_exists
  have hD := dr_win h hQ hdiv
  have hE := win_ends h
  have T : ∀ v, Ring.Tot (ltD P L v) (fun d => d < 2 * m ∧ orgN L d = v) := fun v => by
    refine ⟨fun x hx => ?_, fun x y z hx hy hz h1 h2 => ?_, fun x y hx hy hne => ?_⟩
    · cases e : ltD P L v x x
      · rfl
      · exact absurd ((ltD_bef h hQ hdiv hx.1 hx.1 hx.2 hx.2).1 e) Geo.Bef.irr
    · exact (ltD_bef h hQ hdiv hx.1 hz.1 hx.2 hz.2).2 (((ltD_bef h hQ hdiv hx.1 hy.1 hx.2 hy.2).1 h1).trans_ ((ltD_bef h hQ hdiv hy.1 hz.1 hy.2 hz.2).1 h2))
    · rcases Geo.Bef.total hD hx.1 hy.1 hx.2 hy.2 hne with q | q
      · exact .inl ((ltD_bef h hQ hdiv hx.1 hy.1 hx.2 hy.2).2 q)
      · exact .inr ((ltD_bef h hQ hdiv hy.1 hx.1 hy.2 hx.2).2 q)
  have hS : ∀ v, Sd (ltD P L v) (arr P L m v) := fun v => sorted (T v) (fun y hy => atN_mem.1 hy) (atN_nodup L v (2 * m))
  have hA : ∀ v, ∀ y ∈ arr P L m v, y < 2 * m ∧ orgN L y = v := fun v y hy => arr_mem.1 hy
  have hP : ∀ d, d < 2 * m → Geo.Prev m (tt P) (ss P) (fromN L) (toN L) (cc Q P L) (Geo.fr (fromN L) (toN L) (Geo.tw d)) (nxt P L m d) (Geo.tw d) := by
    intro d hd
    have ht := tw_lt hd
    have hn := nxt_lt (P := P) (L := L) hd
    have hno := nxt_org (P := P) (L := L) hd
    have hlt : ∀ e, e < 2 * m → orgN L e = endN L d → ∀ x, x < 2 * m → orgN L x = endN L d → (ltD P L (endN L d) e x = true ↔ Geo.Bef (tt P) (ss P) (fromN L) (toN L) (cc Q P L) (endN L d) e x) := fun e he ev x hx xv => ltD_bef h hQ hdiv he hx ev xv
    show Geo.Prev m (tt P) (ss P) (fromN L) (toN L) (cc Q P L) (endN L d) (nxt P L m d) (tw d)
    rcases prd_prev (T (endN L d)) (hS (endN L d)) (hA (endN L d)) (arr_mem.2 ⟨ht, rfl⟩ : tw d ∈ arr P L m (endN L d)) with ⟨q1, q2⟩ | ⟨q1, q2⟩
    · refine .inl ⟨(hlt _ hn hno _ ht rfl).1 q1, fun e he ev => ?_⟩
      rintro ⟨r1, r2⟩
      exact q2 e (arr_mem.2 ⟨he, ev⟩) ⟨(hlt _ hn hno _ he ev).2 r1, (hlt _ he ev _ ht rfl).2 r2⟩
    · refine .inr ⟨fun e he ev r => ?_, fun e he ev r => ?_⟩
      · have := q1 e (arr_mem.2 ⟨he, ev⟩)
        rw [(hlt _ he ev _ ht rfl).2 r] at this; cases this
      · have q3 : ltD P L (endN L d) (nxt P L m d) e = false := q2 e (arr_mem.2 ⟨he, ev⟩)
        rw [(hlt _ hn hno _ he ev).2 r] at q3; cases q3
  obtain ⟨d1, hd1, _, hmin⟩ := Geo.exists_min (fun _ => True) (fun d => tt P (orgN L d)) (2 * m) ⟨0, by omega, trivial⟩
  have hl1 : d1 ∈ arr P L m (orgN L d1) := arr_self hd1
  have hl0 : 0 < (arr P L m (orgN L d1)).length := List.length_pos_of_mem hl1
  obtain ⟨o, ho⟩ : ∃ o, o = (arr P L m (orgN L d1)).getD 0 0 := ⟨_, rfl⟩
  have hom : o ∈ arr P L m (orgN L d1) := by rw [ho]; exact getD_mem hl0
  have ho2 := arr_mem.1 hom
  have hfst : ∀ e, e < 2 * m → Geo.fr (fromN L) (toN L) e = Geo.fr (fromN L) (toN L) o → ¬ Geo.Bef (tt P) (ss P) (fromN L) (toN L) (cc Q P L) (Geo.fr (fromN L) (toN L) o) e o := by
    intro e he ev r
    have ev' : orgN L e = orgN L d1 := by rw [← ho2.2]; exact ev
    have hem : e ∈ arr P L m (orgN L d1) := arr_mem.2 ⟨he, ev'⟩
    have r' : Geo.Bef (tt P) (ss P) (fromN L) (toN L) (cc Q P L) (orgN L d1) e o := by rw [← ho2.2]; exact r
    have := (ltD_bef h hQ hdiv he ho2.1 ev' ho2.2).2 r'
    rw [← idx_get hem, ho] at this
    have := sd_lt (T _) (hS _) (hA _) (idx_lt hem) hl0 this
    omega
  have hmin2 : ∀ e, e < 2 * m → tt P (Geo.fr (fromN L) (toN L) o) ≤ tt P (Geo.fr (fromN L) (toN L) e) := by
    intro e he
    have := hmin e he trivial
    rw [fr_org, fr_org, ho2.2]; exact this
  have hrm : (fcs P L m).getD f [] ∈ fcs P L m := by rw [List.getD_eq_getElem?_getD, List.getElem?_eq_getElem hf]; exact List.getElem_mem hf
  obtain ⟨e1, he1, hr⟩ := rnds_mem hrm
  have hlt : ∀ x ∈ (fcs P L m).getD f [], x < 2 * m := fun x hx => fcs_lt hrm hx
  have hnd : ((fcs P L m).getD f []).Nodup := by rw [hr]; exact rnd_nodup (nxt_bij P L m) (by omega)
  generalize hR : (fcs P L m).getD f [] = R at *
  have hinv : ∀ d, d < 2 * m → (nxt P L m d ∈ R ↔ d ∈ R) := fun d hd => by
    have := rnd_nx (nxt_bij P L m) (show e1 < 2 * m by omega) hd
    rw [← hr] at this
    exact this
  have hF : ∀ d, d < 2 * m → (fun d => if d ∈ R then (1 : Int) else 0) (nxt P L m d) = (fun d => if d ∈ R then (1 : Int) else 0) d := fun d hd => by
    show (if nxt P L m d ∈ R then (1 : Int) else 0) = if d ∈ R then 1 else 0
    simp only [hinv d hd]
  have h01 : ∀ d, d < 2 * m → (fun d => if d ∈ R then (1 : Int) else 0) d = 0 ∨ (fun d => if d ∈ R then (1 : Int) else 0) d = 1 := fun d _ => by
    show (if d ∈ R then (1 : Int) else 0) = 0 ∨ (if d ∈ R then (1 : Int) else 0) = 1
    split <;> simp
  have harea : Geo.sumN (fun d => (if d ∈ R then 1 else 0) * Geo.detD (tt P) (ss P) (fromN L) (toN L) d) (2 * m) = 21 * areaL P L R := by
    unfold areaL
    rw [psum_list, ← lsum_ind (crsD P L) (2 * m) _ hnd hlt, ← Geo.sumN_mul]
    refine Geo.sumN_congr fun d _ => ?_
    have e : Geo.detD (tt P) (ss P) (fromN L) (toN L) d = 21 * crsD P L d := by
      show tt P (orgN L d) * ss P (endN L d) - ss P (orgN L d) * tt P (endN L d) = _
      unfold tt ss crsD
      grind
    rw [e]
    grind
  have key := Geo.area_sign hD (nx := nxt P L m) (F := fun d => if d ∈ R then 1 else 0) (nxt_bij P L m) (fun d hd => nxt_org hd) hF hP (arr P L m) (fun v d => arr_mem) (fun v => arr_nodup v) (fun d hd => rfl) hw h01 ho2.1 hmin2 hfst
  have hout : tw o ∈ R := by
    by_cases q : tw o ∈ R
    · exact q
    · exfalso
      have := key.2 (if_neg q) ⟨e1, by omega, if_pos (by rw [hr]; exact rnd_self)⟩
      rw [harea] at this
      omega
  have hmom := fun (u v e : Int) (he : e = 1 ∨ e = -1) hz => Geo.moment_sign hD (nx := nxt P L m) (F := fun d => if d ∈ R then 1 else 0) (nxt_bij P L m) (fun d hd => nxt_org hd) hF hP (arr P L m) (fun v d => arr_mem) (fun v => arr_nodup v) (fun d hd => rfl) hw h01 ho2.1 hmin2 hfst (if_pos hout) u v he hz
  have hclos : ∀ p : Nat → Int, Geo.sumN (fun d => (if d ∈ R then 1 else 0) * (p (endN L d) - p (orgN L d))) (2 * m) = 0 := by
    intro p
    have e2 := Geo.sumN_bij (nxt_bij P L m) (fun d => (if d ∈ R then 1 else 0) * p (orgN L d))
    have e3 : Geo.sumN (fun d => (if d ∈ R then 1 else 0) * (p (endN L d) - p (orgN L d))) (2 * m) = Geo.sumN (fun d => (if nxt P L m d ∈ R then 1 else 0) * p (orgN L (nxt P L m d)) - (if d ∈ R then 1 else 0) * p (orgN L d)) (2 * m) := by
      refine Geo.sumN_congr fun d hd => ?_
      rw [nxt_org hd]
      simp only [hinv d hd]
      grind
    rw [e3, Geo.sumN_sub, e2]
    omega
  have hMs : ∀ j, Geo.sumN (fun d => (if d ∈ R then 1 else 0) * momD P L j d) (2 * m) = lsum (momD P L j) R := fun j => lsum_ind _ _ _ hnd hlt
  have hCs : Geo.sumN (fun d => (if d ∈ R then 1 else 0) * crsD P L d) (2 * m) = areaL P L R := by
    unfold areaL; rw [psum_list]; exact lsum_ind _ _ _ hnd hlt
  have hends : ∀ d, d < 2 * m → d ∈ R → (lo ≤ P (orgN L d) j ∧ P (orgN L d) j ≤ hi) ∧ (lo ≤ P (endN L d) j ∧ P (endN L d) j ≤ hi) := fun d hd hr => by
    have h2 := hbox _ ((hinv d hd).2 hr)
    rw [nxt_org hd] at h2
    exact ⟨hbox d hr, h2⟩
  have memR : ∀ d, (fun d => if d ∈ R then (1 : Int) else 0) d = 1 → d ∈ R := fun d h => by
    by_cases q : d ∈ R
    · exact q
    · have : (if d ∈ R then (1 : Int) else 0) = 1 := h
      rw [if_neg q] at this; cases this
  have hQQ : 0 < Q * Q := Int.mul_pos hQ hQ
  rcases hj with rfl | rfl
  · have sx : ∀ x : Int, Geo.sumN (fun d => (if d ∈ R then 1 else 0) * ((tt P (endN L d) - tt P (orgN L d)) * Geo.q3 (Geo.zv (tt P) (ss P) Q (Q * x) 0 (orgN L d)) (Geo.zv (tt P) (ss P) Q (Q * x) 0 (endN L d)))) (2 * m) = 21 * (Q * Q) * (lsum (momD P L 0) R - 3 * x * areaL P L R) := by
      intro x
      have hc := hclos (fun v => Q * Q * (2 * x * x * tt P v - x * P v 0 * P v 0 - 21 * x * P v 0 * P v 1 + tt P v * (x - P v 0) * (x - P v 0)))
      have e : Geo.sumN (fun d => (if d ∈ R then 1 else 0) * ((tt P (endN L d) - tt P (orgN L d)) * Geo.q3 (Geo.zv (tt P) (ss P) Q (Q * x) 0 (orgN L d)) (Geo.zv (tt P) (ss P) Q (Q * x) 0 (endN L d)))) (2 * m) =
          Geo.sumN (fun d => 21 * (Q * Q) * ((if d ∈ R then 1 else 0) * momD P L 0 d - 3 * x * ((if d ∈ R then 1 else 0) * crsD P L d)) + (if d ∈ R then 1 else 0) * ((fun v => Q * Q * (2 * x * x * tt P v - x * P v 0 * P v 0 - 21 * x * P v 0 * P v 1 + tt P v * (x - P v 0) * (x - P v 0))) (endN L d) - (fun v => Q * Q * (2 * x * x * tt P v - x * P v 0 * P v 0 - 21 * x * P v 0 * P v 1 + tt P v * (x - P v 0) * (x - P v 0))) (orgN L d))) (2 * m) := by
        refine Geo.sumN_congr fun d _ => ?_
        have := polyX Q x (P (orgN L d) 0) (P (orgN L d) 1) (P (endN L d) 0) (P (endN L d) 1)
        unfold Geo.zv ss momD crsD
        show _ * ((21 * P (endN L d) 1 + P (endN L d) 0 - (21 * P (orgN L d) 1 + P (orgN L d) 0)) * Geo.q3 (Q * -P (orgN L d) 0 + Q * x + 0 * (21 * P (orgN L d) 1 + P (orgN L d) 0)) (Q * -P (endN L d) 0 + Q * x + 0 * (21 * P (endN L d) 1 + P (endN L d) 0))) = _
        rw [this]
        unfold tt
        grind
      rw [e, Geo.sumN_add, hc, Geo.sumN_mul, Geo.sumN_sub, Geo.sumN_mul, hMs, hCs, Int.add_zero]
    have zx : ∀ x k, Geo.zv (tt P) (ss P) Q (Q * x) 0 k = Q * (x - P k 0) := fun x k => by unfold Geo.zv ss; grind
    have m1 := hmom (Q * hi) 0 1 (.inl rfl) (fun d hd hdR => by
      have := hends d hd (memR d hdR)
      rw [zx, zx, Int.one_mul, Int.one_mul]
      exact ⟨Int.mul_nonneg (by omega) (by show 0 ≤ hi - P (orgN L d) 0; omega), Int.mul_nonneg (by omega) (by show 0 ≤ hi - P (endN L d) 0; omega)⟩)
    have m2 := hmom (Q * lo) 0 (-1) (.inr rfl) (fun d hd hdR => by
      have := hends d hd (memR d hdR)
      rw [zx, zx]
      have g1 : 0 ≤ Q * (P (orgN L d) 0 - lo) := Int.mul_nonneg (by omega) (by omega)
      have g2 : 0 ≤ Q * (P (endN L d) 0 - lo) := Int.mul_nonneg (by omega) (by omega)
      have e1 : -1 * (Q * (lo - P (orgN L d) 0)) = Q * (P (orgN L d) 0 - lo) := by grind
      have e2 : -1 * (Q * (lo - P (endN L d) 0)) = Q * (P (endN L d) 0 - lo) := by grind
      exact ⟨by show 0 ≤ -1 * (Q * (lo - P (orgN L d) 0)); rw [e1]; exact g1, by show 0 ≤ -1 * (Q * (lo - P (endN L d) 0)); rw [e2]; exact g2⟩)
    have m1' : 0 ≤ 1 * (21 * (Q * Q) * (lsum (momD P L 0) R - 3 * hi * areaL P L R)) := by rw [← sx hi]; exact m1
    have m2' : 0 ≤ -1 * (21 * (Q * Q) * (lsum (momD P L 0) R - 3 * lo * areaL P L R)) := by rw [← sx lo]; exact m2
    have pos : ∀ z : Int, 0 ≤ 21 * (Q * Q) * z → 0 ≤ z := fun z hz => by
      rcases Int.lt_or_le z 0 with q | q
      · exfalso
        have := Int.mul_neg_of_pos_of_neg (show 0 < 21 * (Q * Q) by omega) q
        omega
      · exact q
    have n1 := pos _ (by rw [Int.one_mul] at m1'; exact m1')
    have n2 := pos (-(lsum (momD P L 0) R - 3 * lo * areaL P L R)) (by
      have e : 21 * (Q * Q) * -(lsum (momD P L 0) R - 3 * lo * areaL P L R) = -1 * (21 * (Q * Q) * (lsum (momD P L 0) R - 3 * lo * areaL P L R)) := by grind
      rw [e]; exact m2')
    have f1 : 3 * hi * -areaL P L R = -(3 * hi * areaL P L R) := by grind
    have f2 : 3 * lo * -areaL P L R = -(3 * lo * areaL P L R) := by grind
    rw [f1, f2]
    omega
  · have sy : ∀ y : Int, Geo.sumN (fun d => (if d ∈ R then 1 else 0) * ((tt P (endN L d) - tt P (orgN L d)) * Geo.q3 (Geo.zv (tt P) (ss P) Q (-21 * y * Q) Q (orgN L d)) (Geo.zv (tt P) (ss P) Q (-21 * y * Q) Q (endN L d)))) (2 * m) = -441 * (Q * Q) * (lsum (momD P L 1) R - 3 * y * areaL P L R) := by
      intro y
      have hc := hclos (fun v => 441 * (Q * Q) * (2 * y * y * tt P v - 21 * y * P v 1 * P v 1 - y * P v 0 * P v 1 + tt P v * (P v 1 - y) * (P v 1 - y)))
      have e : Geo.sumN (fun d => (if d ∈ R then 1 else 0) * ((tt P (endN L d) - tt P (orgN L d)) * Geo.q3 (Geo.zv (tt P) (ss P) Q (-21 * y * Q) Q (orgN L d)) (Geo.zv (tt P) (ss P) Q (-21 * y * Q) Q (endN L d)))) (2 * m) =
          Geo.sumN (fun d => -441 * (Q * Q) * ((if d ∈ R then 1 else 0) * momD P L 1 d - 3 * y * ((if d ∈ R then 1 else 0) * crsD P L d)) + (if d ∈ R then 1 else 0) * ((fun v => 441 * (Q * Q) * (2 * y * y * tt P v - 21 * y * P v 1 * P v 1 - y * P v 0 * P v 1 + tt P v * (P v 1 - y) * (P v 1 - y))) (endN L d) - (fun v => 441 * (Q * Q) * (2 * y * y * tt P v - 21 * y * P v 1 * P v 1 - y * P v 0 * P v 1 + tt P v * (P v 1 - y) * (P v 1 - y))) (orgN L d))) (2 * m) := by
        refine Geo.sumN_congr fun d _ => ?_
        have := polyY Q y (P (orgN L d) 0) (P (orgN L d) 1) (P (endN L d) 0) (P (endN L d) 1)
        unfold Geo.zv ss momD crsD
        show _ * ((21 * P (endN L d) 1 + P (endN L d) 0 - (21 * P (orgN L d) 1 + P (orgN L d) 0)) * Geo.q3 (Q * -P (orgN L d) 0 + -21 * y * Q + Q * (21 * P (orgN L d) 1 + P (orgN L d) 0)) (Q * -P (endN L d) 0 + -21 * y * Q + Q * (21 * P (endN L d) 1 + P (endN L d) 0))) = _
        rw [this]
        unfold tt
        grind
      rw [e, Geo.sumN_add, hc, Geo.sumN_mul, Geo.sumN_sub, Geo.sumN_mul, hMs, hCs, Int.add_zero]
    have zy : ∀ y k, Geo.zv (tt P) (ss P) Q (-21 * y * Q) Q k = 21 * Q * (P k 1 - y) := fun y k => by unfold Geo.zv ss tt; grind
    have m1 := hmom (-21 * lo * Q) Q 1 (.inl rfl) (fun d hd hdR => by
      have := hends d hd (memR d hdR)
      rw [zy, zy, Int.one_mul, Int.one_mul]
      exact ⟨Int.mul_nonneg (by omega) (by show 0 ≤ P (orgN L d) 1 - lo; omega), Int.mul_nonneg (by omega) (by show 0 ≤ P (endN L d) 1 - lo; omega)⟩)
    have m2 := hmom (-21 * hi * Q) Q (-1) (.inr rfl) (fun d hd hdR => by
      have := hends d hd (memR d hdR)
      rw [zy, zy]
      have g1 : 0 ≤ 21 * Q * (hi - P (orgN L d) 1) := Int.mul_nonneg (by omega) (by omega)
      have g2 : 0 ≤ 21 * Q * (hi - P (endN L d) 1) := Int.mul_nonneg (by omega) (by omega)
      have e1 : -1 * (21 * Q * (P (orgN L d) 1 - hi)) = 21 * Q * (hi - P (orgN L d) 1) := by grind
      have e2 : -1 * (21 * Q * (P (endN L d) 1 - hi)) = 21 * Q * (hi - P (endN L d) 1) := by grind
      exact ⟨by show 0 ≤ -1 * (21 * Q * (P (orgN L d) 1 - hi)); rw [e1]; exact g1, by show 0 ≤ -1 * (21 * Q * (P (endN L d) 1 - hi)); rw [e2]; exact g2⟩)
    have m1' : 0 ≤ 1 * (-441 * (Q * Q) * (lsum (momD P L 1) R - 3 * lo * areaL P L R)) := by rw [← sy lo]; exact m1
    have m2' : 0 ≤ -1 * (-441 * (Q * Q) * (lsum (momD P L 1) R - 3 * hi * areaL P L R)) := by rw [← sy hi]; exact m2
    have pos : ∀ z : Int, 0 ≤ 441 * (Q * Q) * z → 0 ≤ z := fun z hz => by
      rcases Int.lt_or_le z 0 with q | q
      · exfalso
        have := Int.mul_neg_of_pos_of_neg (show 0 < 441 * (Q * Q) by omega) q
        omega
      · exact q
    have n1 := pos (-(lsum (momD P L 1) R - 3 * lo * areaL P L R)) (by
      have e : 441 * (Q * Q) * -(lsum (momD P L 1) R - 3 * lo * areaL P L R) = 1 * (-441 * (Q * Q) * (lsum (momD P L 1) R - 3 * lo * areaL P L R)) := by grind
      rw [e]; exact m1')
    have n2 := pos (lsum (momD P L 1) R - 3 * hi * areaL P L R) (by
      have e : 441 * (Q * Q) * (lsum (momD P L 1) R - 3 * hi * areaL P L R) = -1 * (-441 * (Q * Q) * (lsum (momD P L 1) R - 3 * hi * areaL P L R)) := by grind
      rw [e]; exact m2')
    have f1 : 3 * hi * -areaL P L R = -(3 * hi * areaL P L R) := by grind
    have f2 : 3 * lo * -areaL P L R = -(3 * lo * areaL P L R) := by grind
    rw [f1, f2]
    omega
end
end Go.Proofs.Ytgmhmlhdiklaaaa
