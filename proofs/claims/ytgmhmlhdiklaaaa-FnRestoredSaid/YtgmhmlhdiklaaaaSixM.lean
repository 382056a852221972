/-
  Texts of one kind, one behind the other: SixV SixI. No conditions.
-/
import Derived.Test.YtgmhmlhdiklaaaaSmaM
import Derived.Test.YtgmhmlhdiklaaaaGeoM
import Derived.Test.YtgmhmlhdiklaaaaWhoM
import Derived.Test.YtgmhmlhdiklaaaaInts
import Derived.Test.YtgmhmlhdiklaaaaHisM
/- SixV -/
namespace Go.Proofs.Ytgmhmlhdiklaaaa
open Go.RowKit Ring
set_option linter.unusedVariables false

def origG (n : Nat) (P : Nat → Nat → Int) (m : Nat) (L : Nat → Nat → Int) (fh : Nat → Nat → Int) (t : Nat) : Int := if fh t 0 = 0 then max 0 (faceA n P m L t) else 0
def origV (n : Nat) (P : Nat → Nat → Int) (m : Nat) (L : Nat → Nat → Int) (nh : Nat) (fh : Nat → Nat → Int) : Int := if histB n P m L nh fh = true then psum (origG n P m L fh) nh else -1
def mayG (n : Nat) (P : Nat → Nat → Int) (m : Nat) (L : Nat → Nat → Int) (nh : Nat) (fh : Nat → Nat → Int) (f s : Int) : Bool := histB n P m L nh fh && inB f 0 ((nh : Int) - 1) && !decide (f = outerV n P m L) && inB s 0 100
def mayB (n : Nat) (P : Nat → Nat → Int) (m : Nat) (L : Nat → Nat → Int) (nh : Nat) (fh : Nat → Nat → Int) (f s : Int) : Bool := mayG n P m L nh fh f s && (!decide (fh f.toNat 0 = 0) || decide (s * totalV n P m L ≤ 100 * (origV n P m L nh fh - areaV n P m L f)))
def replB (n : Nat) (P : Nat → Nat → Int) (m : Nat) (L : Nat → Nat → Int) (nh : Nat) (fh : Nat → Nat → Int) (f y s : Int) : Bool := mayB n P m L nh fh f s && inB y 1 3000 && decide (fh f.toNat 0 ≤ y)
def replL (n : Nat) (P : Nat → Nat → Int) (m : Nat) (L : Nat → Nat → Int) (nh : Nat) (fh : Nat → Nat → Int) (f y s : Int) : List Int := if replB n P m L nh fh f y s = true then (tab nh fun k => fh k 0).set f.toNat y else tab nh fun k => fh k 0
def weakP (n : Nat) (P : Nat → Nat → Int) (m : Nat) (L : Nat → Nat → Int) (p t : Int) (k : Nat) : Bool := decide (0 < faceA n P m L k) && decide (500 * t * t < faceA n P m L k * p)
def weakV (n : Nat) (P : Nat → Nat → Int) (m : Nat) (L : Nat → Nat → Int) (p t : Int) : List Int := if (inB p 0 1000 && inB t 1 20) = true then pick (facesV n P m L).length (weakP n P m L p t) else []
def mostA (n : Nat) (P : Nat → Nat → Int) (m : Nat) (L : Nat → Nat → Int) : Nat → Int
  | 0 => 0
  | t + 1 => max (mostA n P m L t) (faceA n P m L t)
/-- The best pressure over the first t faces. -/
def bestA (C : Int) (n : Nat) (P : Nat → Nat → Int) (m : Nat) (L : Nat → Nat → Int) (t : Nat) : Int := if mostA n P m L t = 0 then 1000 else min 1000 (C / mostA n P m L t)
def greatV (n : Nat) (P : Nat → Nat → Int) (m : Nat) (L : Nat → Nat → Int) (t : Int) : Int := if (wholeB n P m L && inB t 1 20) = true then bestA (500 * t * t) n P m L (facesV n P m L).length else -1
section
variable {n m : Nat} {P L : Nat → Nat → Int}
/-- One of the faces is the wall, and only its area is not above zero. -/
theorem wall_only (hw : wholeB n P m L = true) : ∃ k : Nat, k < (facesV n P m L).length ∧ outerV n P m L = k ∧ faceA n P m L k ≤ 0 ∧ ∀ f, f < (facesV n P m L).length → f ≠ k → 0 < faceA n P m L f ∧ areaV n P m L (f : Int) = faceA n P m L f := by
  obtain ⟨hwin, hm, hall⟩ := wholeB_get hw
  obtain ⟨f0, h1, h2⟩ := faces_sign hwin hall hm
  have hF := facesV_yes hw
  have h1' : f0 < (facesV n P m L).length := by rw [hF]; exact h1
  have h3 : ∀ f, f < (facesV n P m L).length → (f = f0 → faceA n P m L f ≤ 0) ∧ (f ≠ f0 → 0 < faceA n P m L f) := by
    intro f hf
    unfold faceA
    rw [hF] at hf ⊢
    exact h2 f hf
  rcases outerV_cases (n := n) (m := m) (P := P) (L := L) with ⟨_, h⟩ | ⟨k, g1, g2, g3, _⟩
  · have := h f0 h1'
    have := (h3 f0 h1').1 rfl
    omega
  · have e : k = f0 := by
      by_cases e : k = f0
      · exact e
      · have := (h3 k g1).2 e
        omega
    refine ⟨k, g1, g2, g3, fun f hf hne => ?_⟩
    have h4 := (h3 f hf).2 (by omega)
    refine ⟨h4, ?_⟩
    rw [areaV_yes hf]
    unfold absI
    omega
theorem orig_out {fh : Nat → Nat → Int} {k : Nat} (h : faceA n P m L k ≤ 0) : origG n P m L fh k = 0 := by
  unfold origG
  split
  · omega
  · rfl
theorem orig_old {fh : Nat → Nat → Int} {k : Nat} (h : ¬ fh k 0 = 0) : origG n P m L fh k = 0 := if_neg h
theorem orig_new {fh : Nat → Nat → Int} {k : Nat} (h : fh k 0 = 0) : origG n P m L fh k = max 0 (faceA n P m L k) := if_pos h
theorem orig_rng {nh : Nat} {fh : Nat → Nat → Int} (hn : nh ≤ (facesV n P m L).length) : ∀ t, t ≤ nh → 0 ≤ psum (origG n P m L fh) t ∧ psum (origG n P m L fh) t ≤ 16000 * (t : Int)
  | 0, _ => ⟨by simp [psum], by simp [psum]⟩
  | t + 1, ht => by
    have h1 := orig_rng (fh := fh) hn t (by omega)
    have h2 := faceA_box (n := n) (m := m) (P := P) (L := L) (k := t) (by omega)
    show 0 ≤ psum _ t + _ ∧ psum _ t + _ ≤ _
    have h3 : 0 ≤ origG n P m L fh t ∧ origG n P m L fh t ≤ 16000 := by
      unfold origG
      split <;> omega
    omega
theorem origV_yes {nh : Nat} {fh : Nat → Nat → Int} (h : histB n P m L nh fh = true) : origV n P m L nh fh = psum (origG n P m L fh) nh := if_pos h
theorem origV_no {nh : Nat} {fh : Nat → Nat → Int} (h : histB n P m L nh fh = false) : origV n P m L nh fh = -1 := if_neg (by rw [h]; simp)
theorem histB_get {nh : Nat} {fh : Nat → Nat → Int} (h : histB n P m L nh fh = true) : wholeB n P m L = true ∧ nh = (facesV n P m L).length ∧ ∀ i, i < nh → 0 ≤ fh i 0 ∧ fh i 0 ≤ 3000 := by
  unfold histB at h
  rw [Bool.and_eq_true, Bool.and_eq_true] at h
  have h1 : (nh : Int) = ((facesV n P m L).length : Nat) := by simpa using h.1.2
  exact ⟨h.1.1, by omega, fun i hi => inB_of (allB_get h.2 hi)⟩
theorem origV_rng (nh : Nat) (fh : Nat → Nat → Int) : -1 ≤ origV n P m L nh fh ∧ origV n P m L nh fh ≤ 320000 := by
  cases h : histB n P m L nh fh
  · rw [origV_no h]; omega
  · rw [origV_yes h]
    obtain ⟨_, h2, _⟩ := histB_get h
    have h3 := faces_len (n := n) (m := m) (P := P) (L := L)
    have := orig_rng (n := n) (m := m) (P := P) (L := L) (fh := fh) (nh := nh) (by omega) nh (Nat.le_refl _)
    omega
theorem mostA_rng : ∀ t, t ≤ (facesV n P m L).length → 0 ≤ mostA n P m L t ∧ mostA n P m L t ≤ 16000
  | 0, _ => ⟨by simp [mostA], by simp [mostA]⟩
  | t + 1, ht => by
    have h1 := mostA_rng t (by omega)
    have h2 := faceA_box (n := n) (m := m) (P := P) (L := L) (k := t) (by omega)
    show 0 ≤ max (mostA n P m L t) (faceA n P m L t) ∧ max (mostA n P m L t) (faceA n P m L t) ≤ 16000
    omega
theorem div_anti {C a b : Int} (hC : 0 ≤ C) (ha : 0 < a) (hab : a ≤ b) : C / b ≤ C / a := by
  have h1 := Int.ediv_nonneg hC (show 0 ≤ b by omega)
  have h2 : C / b * a ≤ C / b * b := Int.mul_le_mul_of_nonneg_left hab h1
  have h3 := Int.ediv_mul_le C (show b ≠ 0 by omega)
  exact (Int.le_ediv_iff_mul_le ha).2 (by omega)
theorem best_zero (C : Int) : bestA C n P m L 0 = 1000 := if_pos rfl
theorem best_out {C : Int} {t : Nat} (h0 : 0 ≤ mostA n P m L t) (h : faceA n P m L t ≤ 0) : bestA C n P m L (t + 1) = bestA C n P m L t := by
  have e : mostA n P m L (t + 1) = mostA n P m L t := by show max _ _ = _; omega
  unfold bestA; rw [e]
theorem best_in {C : Int} {t : Nat} (hC : 0 ≤ C) (h0 : 0 ≤ mostA n P m L t) (h : 0 < faceA n P m L t) : bestA C n P m L (t + 1) = min (bestA C n P m L t) (C / faceA n P m L t) := by
  have e : mostA n P m L (t + 1) = max (mostA n P m L t) (faceA n P m L t) := rfl
  unfold bestA
  rw [e]
  generalize mostA n P m L t = a at *
  generalize faceA n P m L t = b at *
  by_cases ha : a = 0
  · subst ha
    rw [show max 0 b = b by omega, if_neg (by omega), if_pos rfl]
  · by_cases hab : b ≤ a
    · rw [show max a b = a by omega, if_neg ha]
      have := div_anti hC h hab
      omega
    · rw [show max a b = b by omega, if_neg ha, if_neg (by omega)]
      have := div_anti (b := b) hC (show 0 < a by omega) (by omega)
      omega
theorem best_rng {C : Int} (hC : 0 ≤ C) (t : Nat) (ht : t ≤ (facesV n P m L).length) : 0 ≤ bestA C n P m L t ∧ bestA C n P m L t ≤ 1000 := by
  have h := mostA_rng (n := n) (m := m) (P := P) (L := L) t ht
  unfold bestA
  split
  · omega
  · have := Int.ediv_nonneg hC h.1
    omega
theorem weakV_len (p t : Int) : (weakV n P m L p t).length ≤ 20 := by
  unfold weakV
  split
  · exact Nat.le_trans (pick_len _ _) faces_len
  · simp
/-- What the program asks of a face is what the reference asks. -/
theorem weak_same (hw : wholeB n P m L = true) {p t : Int} (hp : 0 ≤ p ∧ p ≤ 1000) (ht : 1 ≤ t ∧ t ≤ 20) {k : Nat} (hk : k < (facesV n P m L).length) :
    weakP n P m L p t k = (!decide ((k : Int) = outerV n P m L) && !bearB (loadV n P m L k p) t) := by
  obtain ⟨j, h1, h2, h3, h4⟩ := wall_only hw
  unfold weakP
  by_cases e : k = j
  · subst e
    rw [h2]
    simp; intro; omega
  · obtain ⟨g1, g2⟩ := h4 k hk e
    have e2 : ¬ ((k : Int) = outerV n P m L) := by rw [h2]; omega
    rw [decide_eq_false e2, decide_eq_true g1]
    have q1 : 0 ≤ areaV n P m L (k : Int) := by rw [g2]; omega
    have hl : loadV n P m L (k : Int) p = faceA n P m L k * p := by
      unfold loadV
      rw [if_pos (by rw [decide_eq_true q1, inB_yes hp]; rfl), g2]
    have q2 := Int.mul_nonneg (show 0 ≤ faceA n P m L k by omega) hp.1
    unfold bearB
    rw [hl, decide_eq_true q2, inB_yes ht]
    by_cases g : faceA n P m L k * p ≤ 500 * t * t
    · simp [g]
    · simp [g]; omega
end

end Go.Proofs.Ytgmhmlhdiklaaaa

/- SixI -/
namespace Go.Proofs.Ytgmhmlhdiklaaaa
open Go.RowKit Ring
set_option linter.unusedVariables false

set_option maxRecDepth 100000 in
set_option maxHeartbeats 8000000 in
theorem impl_OriginalArea (A : Option Addr) (n c : Nat) (P : Nat → Nat → Int) (B : Option Addr) (m d : Nat) (L : Nat → Nat → Int) (hnc : n ≤ c) (hcm : c ≤ 9223372036854775807) (hmd : m ≤ d) (hdm : d ≤ 9223372036854775807) (Ah : Option Addr) (nh ch : Nat) (fh : Nat → Nat → Int) (ih : nh ≤ ch) (jh : ch ≤ 9223372036854775807) (w : World) (hr : Recs w 2 A n P) (hs : Recs w 2 B m L) (rh : Recs w 1 Ah nh fh) :
    Calls Try.prog 42 #[.agg #[.slice A n c, .slice B m d], .slice Ah nh ch] w fun e w' => e = .returned (.int .i64 (origV n P m L nh fh)) ∧ Ext w w' := by
  have HH := Lib.hid (fun W (Z : Ext w W) => impl_HistoryOk A n c P B m d L hnc hcm hmd hdm Ah nh ch fh ih jh W (hr.ext Z) (hs.ext Z) (rh.ext Z))
  have HOuterFace : Hid (∀ W, Ext w W → Calls Try.prog 65 #[.agg #[.slice A n c, .slice B m d]] W fun e w' => e = .returned (.int .i64 (outerV n P m L)) ∧ Ext W w') := Lib.hid (fun W Z => impl_OuterFace A n c P B m d L hnc hcm hmd hdm W (hr.ext Z) (hs.ext Z))
  have HAO : Hid (∀ W, Ext w W → ∀ k : Nat, k < 20 → Calls Try.prog 58 #[.agg #[.slice A n c, .slice B m d], .int .i64 (k : Int)] W fun e w' => e = .returned (.int .i64 (areaV n P m L k)) ∧ Ext W w') := Lib.hid (fun W Z k hk => impl_AreaOf A n c P B m d L hnc hcm hmd hdm k (by omega) W (hr.ext Z) (hs.ext Z))
  have HAX := Lib.hid (fun k => areaV_rng (n := n) (m := m) (P := P) (L := L) k)
  have HBX := Lib.hid (fun k (hk : k < (facesV n P m L).length) => faceA_box hk)
  have hlen := faces_len (n := n) (m := m) (P := P) (L := L)
  have q0 : (w.alloc (.cells #[.slice A n c, .slice B m d] 27)).cell? ⟨w.heap.size, 0, none⟩ = some (.slice A n c) := by simp [go_sem]
  have q1 : (w.alloc (.cells #[.slice A n c, .slice B m d] 27)).cell? ⟨w.heap.size, 1, none⟩ = some (.slice B m d) := by simp [go_sem]
  clear hr hs
  cases hh : histB n P m L nh fh
  · rw [hh] at HH
    have HV := Lib.hid (origV_no hh)
    clear hh
    go_enter Try.func42, Try.ntmps42
    go_wp2_with fail
    refine (HH.out _ (by repeat (first | exact Ext.refl _ | apply Ext.alloc))).mono ?_
    rintro e w1 ⟨rfl, x1⟩
    replace q0 := x1.cell q0
    replace q1 := x1.cell q1
    have X1 : Ext w w1 := Ext.trans (by repeat (first | exact Ext.refl _ | apply Ext.alloc)) x1
    go_wp2
    go_ret
    exact ⟨ret_i HV.out.symm, X1⟩
  · rw [hh] at HH
    obtain ⟨hw, hnl, hbd⟩ := histB_get hh
    obtain ⟨ko, hko, ho, hon, hin⟩ := wall_only hw
    rw [ho] at HOuterFace
    have HV := Lib.hid (origV_yes hh)
    have HRG := Lib.hid (fun t (ht : t ≤ nh) => orig_rng (n := n) (P := P) (m := m) (L := L) (fh := fh) (nh := nh) (by omega) t ht)
    have HAV := Lib.hid (fun t (ht : t < nh) (hne : t ≠ ko) => hin t (by omega) hne)
    have HG0 := Lib.hid (orig_out (fh := fh) hon)
    have HG1 := Lib.hid (fun t (h : fh t 0 = 0) => orig_new (n := n) (P := P) (m := m) (L := L) h)
    have HG2 := Lib.hid (fun t (h : ¬ fh t 0 = 0) => orig_old (n := n) (P := P) (m := m) (L := L) h)
    have HNL := Lib.hid hnl
    have hn20 : nh ≤ 20 := by omega
    clear hh hw hbd hin ho hnl
    have hkn : ko < 20 := by omega
    generalize areaV n P m L = av at *
    generalize faceA n P m L = fa at *
    generalize origG n P m L fh = g at *
    go_enter Try.func42, Try.ntmps42
    go_wp2_with fail
    refine (HH.out _ (by repeat (first | exact Ext.refl _ | apply Ext.alloc))).mono ?_
    rintro e w1 ⟨rfl, x1⟩
    replace q0 := x1.cell q0
    replace q1 := x1.cell q1
    have X1 : Ext w w1 := Ext.trans (by repeat (first | exact Ext.refl _ | apply Ext.alloc)) x1
    go_wp2_with fail
    refine (HOuterFace.out _ X1).mono ?_
    rintro e w2 ⟨rfl, x2⟩
    replace q0 := x2.cell q0
    replace q1 := x2.cell q1
    have X2 : Ext w w2 := Ext.trans X1 x2
    have Q0 := Lib.hid q0
    have Q1 := Lib.hid q1
    clear q0 q1 x1 x2
    go_wp2
    go_loopw [6, 17] (fun s i wr => ∃ t : Nat, t ≤ nh ∧ s = .int .i64 (psum g t) ∧ i = .int .i64 t ∧ Ext w2 wr) (fun _ i _ => nh - (intOf i).toNat)
    case atStart => exact ⟨0, Nat.zero_le _, rfl, rfl, Ext.refl _⟩
    case round =>
      obtain ⟨t, ht, rfl, rfl, X⟩ := hrel
      have q0 := X.cell Q0.out
      have q1 := X.cell Q1.out
      have XW := X2.trans X
      have hrg := HRG.out t ht
      by_cases hlt : t < nh
      · obtain ⟨b, off, rfl, hb, c0⟩ := rh.at1 hlt
        replace c0 := XW.cell c0
        have k1 : (0 : Int) ≤ (t : Int) := by omega
        have k2 : (t : Int) < (nh : Int) := by omega
        have HSU : Hid (psum g (t + 1) = psum g t + g t) := Lib.hid rfl
        by_cases e : t = ko
        · have HS := Lib.hid (show psum g (t + 1) = psum g t by rw [HSU.out, e, HG0.out]; omega)
          have d1 : ((t : Int) != (ko : Int)) = false := by simp [e]
          clear e
          generalize psum g t = s1 at *
          go_wp2
          go_roundw
          case rel => exact ⟨t + 1, by omega, by rw [HS.out], by go_num, X⟩
          case measure => simp [intOf]; omega
        · have d1 : ((t : Int) != (ko : Int)) = true := by simp; omega
          by_cases h0 : fh t 0 = 0
          · obtain ⟨p1, p2⟩ := HAV.out t hlt e
            have hax := HAX.out (t : Int)
            have HS := Lib.hid (show psum g (t + 1) = psum g t + av (t : Int) by rw [HSU.out, HG1.out t h0, p2]; omega)
            have d2 : (fh t 0 == 0) = true := by simp [h0]
            have HAt := Lib.hid (fun W Z => HAO.out W Z t (by omega))
            clear e h0 p1 p2
            generalize psum g t = s1 at *
            generalize av (t : Int) = a at *
            go_wp2_with fail
            refine (HAt.out _ XW).mono ?_
            rintro e w5 ⟨rfl, x5⟩
            have X5 := X.trans x5
            go_wp2
            go_roundw
            case rel => exact ⟨t + 1, by omega, by rw [HS.out], by go_num, X5⟩
            case measure => simp [intOf]; omega
          · have HS := Lib.hid (show psum g (t + 1) = psum g t by rw [HSU.out, HG2.out t h0]; omega)
            have d2 : (fh t 0 == 0) = false := by simp [h0]
            clear e h0
            generalize psum g t = s1 at *
            go_wp2
            go_roundw
            case rel => exact ⟨t + 1, by omega, by rw [HS.out], by go_num, X⟩
            case measure => simp [intOf]; omega
      · obtain rfl : nh = t := by omega
        go_wp2
        go_ret
        exact ⟨ret_i HV.out.symm, XW⟩

set_option maxRecDepth 100000 in
set_option maxHeartbeats 8000000 in
theorem impl_GreatestWind (A : Option Addr) (n c : Nat) (P : Nat → Nat → Int) (B : Option Addr) (m d : Nat) (L : Nat → Nat → Int) (hnc : n ≤ c) (hcm : c ≤ 9223372036854775807) (hmd : m ≤ d) (hdm : d ≤ 9223372036854775807) (t : Int) (ht : (-9223372036854775808 ≤ t ∧ t ≤ 9223372036854775807)) (w : World) (hr : Recs w 2 A n P) (hs : Recs w 2 B m L) :
    Calls Try.prog 30 #[.agg #[.slice A n c, .slice B m d], .int .i64 t] w fun e w' => e = .returned (.int .i64 (greatV n P m L t)) ∧ Ext w w' := by
  have HIsWhole : Hid (∀ W, Ext w W → Calls Try.prog 63 #[.agg #[.slice A n c, .slice B m d]] W fun e w' => e = .returned (.bool (wholeB n P m L)) ∧ Ext W w') := Lib.hid (fun W Z => impl_IsWhole A n c P B m d L hnc hcm hmd hdm W (hr.ext Z) (hs.ext Z))
  have HI := Lib.hid (fun W => within_any t 1 20 W)
  have HV := Lib.hid (show greatV n P m L t = if (wholeB n P m L && inB t 1 20) = true then bestA (500 * t * t) n P m L (facesV n P m L).length else -1 from rfl)
  have HFO : Hid (∀ W, Ext w W → Calls Try.prog 64 #[.agg #[.slice A n c, .slice B m d]] W (PostF W (facesV n P m L))) := Lib.hid (fun W Z => impl_FacesOf A n c P B m d L hnc hcm hmd hdm W (hr.ext Z) (hs.ext Z))
  have HAR := Lib.hid (fun k (hk : k < (facesV n P m L).length) (B2 : Option Addr) (c2 : Nat) (h1 : ((facesV n P m L).getD k []).length ≤ c2) (h2 : c2 ≤ 9223372036854775807) W (Z : Ext w W) (hrow : Recs W 1 B2 ((facesV n P m L).getD k []).length (fun i _ => ((((facesV n P m L).getD k []).getD i 0 : Nat) : Int))) => (show Calls Try.prog 67 #[.agg #[.slice A n c, .slice B m d], .slice B2 ((facesV n P m L).getD k []).length c2] W fun e w' => e = .returned (.int .i64 (faceA n P m L k)) ∧ Ext W w' from impl_areaOf A n c P B m d L hnc hcm hmd hdm ((facesV n P m L).getD k []) B2 c2 h1 h2 (faces_row hk).1 (faces_row hk).2.2.1 (faces_row hk).2.2.2 W (hr.ext Z) (hs.ext Z) hrow))
  have HOuterFace : Hid (∀ W, Ext w W → Calls Try.prog 65 #[.agg #[.slice A n c, .slice B m d]] W fun e w' => e = .returned (.int .i64 (outerV n P m L)) ∧ Ext W w') := Lib.hid (fun W Z => impl_OuterFace A n c P B m d L hnc hcm hmd hdm W (hr.ext Z) (hs.ext Z))
  have hlen := faces_len (n := n) (m := m) (P := P) (L := L)
  have q0 : (w.alloc (.cells #[.slice A n c, .slice B m d] 27)).cell? ⟨w.heap.size, 0, none⟩ = some (.slice A n c) := by simp [go_sem]
  have q1 : (w.alloc (.cells #[.slice A n c, .slice B m d] 27)).cell? ⟨w.heap.size, 1, none⟩ = some (.slice B m d) := by simp [go_sem]
  cases hw : wholeB n P m L
  · rw [hw] at HIsWhole HV
    have HR := Lib.hid (show greatV n P m L t = -1 by rw [HV.out]; rfl)
    clear hw
    go_enter Try.func30, Try.ntmps30
    go_wp2_with fail
    refine (HIsWhole.out _ (by repeat (first | exact Ext.refl _ | apply Ext.alloc))).mono ?_
    rintro e w1 ⟨rfl, x1⟩
    replace q0 := x1.cell q0
    replace q1 := x1.cell q1
    have X1 : Ext w w1 := Ext.trans (by repeat (first | exact Ext.refl _ | apply Ext.alloc)) x1
    go_wp2
    go_ret
    exact ⟨ret_i HR.out.symm, X1⟩
  · rw [hw] at HIsWhole HV
    cases hin : inB t 1 20
    · rw [hin] at HI HV
      have HR := Lib.hid (show greatV n P m L t = -1 by rw [HV.out]; rfl)
      clear hin hw
      go_enter Try.func30, Try.ntmps30
      go_wp2_with fail
      refine (HIsWhole.out _ (by repeat (first | exact Ext.refl _ | apply Ext.alloc))).mono ?_
      rintro e w1 ⟨rfl, x1⟩
      replace q0 := x1.cell q0
      replace q1 := x1.cell q1
      have X1 : Ext w w1 := Ext.trans (by repeat (first | exact Ext.refl _ | apply Ext.alloc)) x1
      go_wp2_with fail
      refine (HI.out _).mono ?_
      rintro e w2 ⟨rfl, x2⟩
      replace q0 := x2.cell q0
      replace q1 := x2.cell q1
      have X2 : Ext w w2 := Ext.trans X1 x2
      go_wp2
      go_ret
      exact ⟨ret_i HR.out.symm, X2⟩
    · rw [hin] at HI HV
      have hb := inB_of hin
      have hsq := sq_rng hb.1 hb.2
      obtain ⟨ko, hko, ho, hon, hki⟩ := wall_only hw
      clear hin
      rw [ho] at HOuterFace
      have HIN := Lib.hid (fun k (hk : k < (facesV n P m L).length) (hne : k ≠ ko) => (hki k hk hne).1)
      have HBX := Lib.hid (fun k (hk : k < (facesV n P m L).length) => faceA_box hk)
      have HBO := Lib.hid (fun C k (h0 : k ≤ (facesV n P m L).length) (h : faceA n P m L k ≤ 0) => best_out (C := C) (mostA_rng (n := n) (m := m) (P := P) (L := L) k h0).1 h)
      have HBI := Lib.hid (fun C k (hC : 0 ≤ C) (h0 : k ≤ (facesV n P m L).length) (h : 0 < faceA n P m L k) => best_in hC (mostA_rng (n := n) (m := m) (P := P) (L := L) k h0).1 h)
      have HB0 := Lib.hid (fun C => best_zero (n := n) (m := m) (P := P) (L := L) C)
      have HBR := Lib.hid (fun C (hC : 0 ≤ C) k hk => best_rng (n := n) (m := m) (P := P) (L := L) hC k hk)
      have HR := Lib.hid (show greatV n P m L t = bestA (500 * t * t) n P m L (facesV n P m L).length by rw [HV.out]; rfl)
      have HON := Lib.hid hon
      have hC0 := hsq.1
      have hkn : ko < 20 := by omega
      clear hki ho hw HV hon
      have f1 : -9223372036854775808 ≤ 500 * t ∧ 500 * t ≤ 9223372036854775807 := by omega
      generalize facesV n P m L = R at *
      generalize faceA n P m L = fa at *
      generalize hbe : (fun C => bestA C n P m L) = be at *
      have hbe' : ∀ C k, bestA C n P m L k = be C k := fun C k => by rw [← hbe]
      have HB1 := Lib.hid (fun C k h0 h => (hbe' C (k + 1)).symm.trans ((HBO.out C k h0 h).trans (hbe' C k)))
      have HB2 : Hid (∀ C k, 0 ≤ C → k ≤ R.length → 0 < fa k → be C (k + 1) = min (be C k) (C / fa k)) := Lib.hid (fun C k hC h0 h => by rw [← hbe', ← hbe']; exact HBI.out C k hC h0 h)
      have HB3 := Lib.hid (fun C => (hbe' C 0).symm.trans (HB0.out C))
      have HB4 : Hid (∀ C, 0 ≤ C → ∀ k, k ≤ R.length → 0 ≤ be C k ∧ be C k ≤ 1000) := Lib.hid (fun C hC k hk => by rw [← hbe']; exact HBR.out C hC k hk)
      have HR2 := Lib.hid (HR.out.trans (hbe' _ _))
      clear hbe hbe' HBO HBI HB0 HBR HR
      generalize hy1 : 500 * t = y1 at *
      generalize hyC : y1 * t = C at *
      go_enter Try.func30, Try.ntmps30
      go_wp2_with fail
      refine (HIsWhole.out _ (by repeat (first | exact Ext.refl _ | apply Ext.alloc))).mono ?_
      rintro e w1 ⟨rfl, x1⟩
      replace q0 := x1.cell q0
      replace q1 := x1.cell q1
      have X1 : Ext w w1 := Ext.trans (by repeat (first | exact Ext.refl _ | apply Ext.alloc)) x1
      go_wp2_with fail
      refine (HI.out _).mono ?_
      rintro e w2 ⟨rfl, x2⟩
      replace q0 := x2.cell q0
      replace q1 := x2.cell q1
      have X2 : Ext w w2 := X1.trans x2
      go_wp2_with fail
      refine (HFO.out _ X2).mono ?_
      rintro e w3 ⟨AF, cF, rfl, iF, jF, hF, x3⟩
      replace q0 := x3.cell q0
      replace q1 := x3.cell q1
      have X3 : Ext w w3 := Ext.trans X2 x3
      have Q0 := Lib.hid q0
      have Q1 := Lib.hid q1
      have HF := Lib.hid hF
      clear q0 q1 x1 x2 x3 hF HFO
      go_wp2
      go_loopw [5, 19] (fun s i wr => ∃ k : Nat, k ≤ R.length ∧ s = .int .i64 (be C k) ∧ i = .int .i64 k ∧ Ext w3 wr) (fun _ i _ => R.length - (intOf i).toNat)
      case atStart => exact ⟨0, Nat.zero_le _, by rw [HB3.out], rfl, Ext.refl _⟩
      case round =>
        obtain ⟨k, hk, rfl, rfl, X⟩ := hrel
        have q0 := X.cell Q0.out
        have q1 := X.cell Q1.out
        have XW := X3.trans X
        have hbr := HB4.out C hC0 k hk
        by_cases hlt : k < R.length
        · obtain ⟨b', o', Bk, ck, rfl, hb', hck, i1, i2, hrow⟩ := HF.out.at_ hlt
          replace hck := X.cell hck
          have hbx := HBX.out k hlt
          have k1 : (0 : Int) ≤ (k : Int) := by omega
          have k2 : (k : Int) < (R.length : Int) := by omega
          have hl0 : (0 : Int) ≤ ((R.getD k []).length : Int) := by omega
          have HAk := Lib.hid (fun W (Z : Ext wr W) => HAR.out k hlt Bk ck i1 i2 W (XW.trans Z) (hrow.ext (X.trans Z)))
          clear hrow
          by_cases e : k = ko
          · have HS := Lib.hid (HB1.out C k (by omega) (by rw [e]; exact HON.out))
            have d1 : ((k : Int) != (ko : Int)) = false := by simp [e]
            clear e
            generalize R.getD k [] = r at *
            generalize be C k = b0 at *
            go_wp2_with fail
            refine (HOuterFace.out _ XW).mono ?_
            rintro e w5 ⟨rfl, x5⟩
            have X5 := X.trans x5
            go_wp2
            go_roundw
            case rel => exact ⟨k + 1, by omega, by rw [HS.out], by go_num, X5⟩
            case measure => simp [intOf]; omega
          · have d1 : ((k : Int) != (ko : Int)) = true := by simp; omega
            have hpos := HIN.out k hlt e
            have HS := Lib.hid (HB2.out C k hC0 (by omega) hpos)
            have HSZ := Lib.hid (fun W => size_any (fa k) (by omega) W)
            have hab : absI (fa k) = fa k := by unfold absI; omega
            rw [hab] at HSZ
            have hdv : C.tdiv (fa k) = C / fa k := Int.tdiv_eq_ediv_of_nonneg hC0
            have hq0 := Int.ediv_nonneg hC0 (show 0 ≤ fa k by omega)
            have hqC := Int.ediv_le_self (fa k) hC0
            have hz : ¬ fa k = 0 := by omega
            have hz2 : (fa k == 0) = false := beq_eq_false_iff_ne.2 hz
            clear e hab
            generalize R.getD k [] = r at *
            generalize fa k = a at *
            generalize hq : C / a = q at *
            generalize be C k = b0 at *
            have HQ := Lib.hid hq
            clear hq
            by_cases hmin : b0 < q
            · have HS2 := Lib.hid (show be C (k + 1) = b0 by rw [HS.out]; omega)
              go_wp2_with fail
              refine (HOuterFace.out _ XW).mono ?_
              rintro e w5 ⟨rfl, x5⟩
              replace q0 := x5.cell q0
              replace q1 := x5.cell q1
              go_wp2_with fail
              refine (HAk.out _ x5).mono ?_
              rintro e w6 ⟨rfl, x6⟩
              go_wp2_with fail
              refine (HSZ.out _).mono ?_
              rintro e w7 ⟨rfl, x7⟩
              have X7 := ((X.trans x5).trans x6).trans x7
              go_wp2
              go_roundw
              case rel => exact ⟨k + 1, by omega, by rw [HS2.out], by go_num, X7⟩
              case measure => simp [intOf]; omega
            · have HS2 := Lib.hid (show be C (k + 1) = q by rw [HS.out]; omega)
              go_wp2_with fail
              refine (HOuterFace.out _ XW).mono ?_
              rintro e w5 ⟨rfl, x5⟩
              replace q0 := x5.cell q0
              replace q1 := x5.cell q1
              go_wp2_with fail
              refine (HAk.out _ x5).mono ?_
              rintro e w6 ⟨rfl, x6⟩
              go_wp2_with fail
              refine (HSZ.out _).mono ?_
              rintro e w7 ⟨rfl, x7⟩
              have X7 := ((X.trans x5).trans x6).trans x7
              go_wp2
              all_goals
                go_roundw
                case rel => exact ⟨k + 1, by omega, by rw [HS2.out]; first | rfl | (congr 1; omega), by go_num, X7⟩
                case measure => simp [intOf]; omega
        · obtain rfl : k = R.length := by omega
          go_wp2
          go_ret
          exact ⟨ret_i HR2.out.symm, XW⟩

end Go.Proofs.Ytgmhmlhdiklaaaa
