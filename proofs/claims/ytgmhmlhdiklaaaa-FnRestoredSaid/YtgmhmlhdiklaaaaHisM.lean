/-
  Texts of one kind, one behind the other: HistI HistS OldV OldI OldS. No conditions.
-/
import Derived.Test.YtgmhmlhdiklaaaaSmaM
import Derived.Test.YtgmhmlhdiklaaaaAreM
import Derived.Test.YtgmhmlhdiklaaaaFdx
import Derived.Test.YtgmhmlhdiklaaaaInts
/- HistI -/
namespace Go.Proofs.Ytgmhmlhdiklaaaa
open Go.RowKit Ring
set_option linter.unusedVariables false

set_option maxHeartbeats 2000000 in
theorem allWithin_any (Ah : Option Addr) (nh ch : Nat) (fh : Nat → Nat → Int) (ih : nh ≤ ch) (jh : ch ≤ 9223372036854775807) (lo hi : Int) (w : World) (rh : Recs w 1 Ah nh fh) :
    Calls Try.prog 72 #[.slice Ah nh ch, .int .i64 lo, .int .i64 hi] w fun e w' => e = .returned (.bool (allB nh fun i => inB (fh i 0) lo hi)) ∧ Ext w w' := by
  go_enter Try.func72, Try.ntmps72
  go_wp2
  go_loopw [11] (fun i wr => ∃ k : Nat, k ≤ nh ∧ i = .int .i64 k ∧ Ext w wr ∧ ∀ j, j < k → inB (fh j 0) lo hi = true) (fun i _ => nh - (intOf i).toNat)
  case atStart => exact ⟨0, Nat.zero_le _, rfl, Ext.refl _, fun j hj => absurd hj (by omega)⟩
  case round =>
    obtain ⟨k, hk, rfl, X, hall⟩ := hrel
    have HALL := Lib.hid hall
    clear hall
    by_cases hlt : k < nh
    · obtain ⟨b, o, rfl, hb, c0⟩ := rh.at1 hlt
      replace c0 := X.cell c0
      have k1 : (0 : Int) ≤ (k : Int) := by omega
      have k2 : (k : Int) < (nh : Int) := by omega
      have HI := Lib.hid (fun W => within_any (fh k 0) lo hi W)
      cases hin : inB (fh k 0) lo hi
      · have HR := Lib.hid (allB_no (p := fun i => inB (fh i 0) lo hi) hlt hin)
        rw [hin] at HI
        clear hin
        go_wp2_with fail
        refine (HI.out _).mono ?_
        rintro e w2 ⟨rfl, x2⟩
        go_wp2
        go_ret
        exact ⟨ret_b HR.out.symm, X.trans x2⟩
      · have HALL2 : Hid (∀ j, j < k + 1 → inB (fh j 0) lo hi = true) := Lib.hid (fun j hj => by
          by_cases e : j = k
          · rw [e]; exact hin
          · exact HALL.out j (by omega))
        rw [hin] at HI
        clear hin
        go_wp2_with fail
        refine (HI.out _).mono ?_
        rintro e w2 ⟨rfl, x2⟩
        go_wp2
        go_roundw
        case rel => exact ⟨k + 1, by omega, by go_num, X.trans x2, HALL2.out⟩
        case measure => simp [intOf]; omega
    · obtain rfl : k = nh := by omega
      have HR := Lib.hid (allB_yes (p := fun i => inB (fh i 0) lo hi) HALL.out)
      go_wp2
      go_ret
      exact ⟨ret_b HR.out.symm, X⟩

set_option maxRecDepth 100000 in
set_option maxHeartbeats 8000000 in
theorem impl_HistoryOk (A : Option Addr) (n c : Nat) (P : Nat → Nat → Int) (B : Option Addr) (m d : Nat) (L : Nat → Nat → Int) (hnc : n ≤ c) (hcm : c ≤ 9223372036854775807) (hmd : m ≤ d) (hdm : d ≤ 9223372036854775807) (Ah : Option Addr) (nh ch : Nat) (fh : Nat → Nat → Int) (ih : nh ≤ ch) (jh : ch ≤ 9223372036854775807) (w : World) (hr : Recs w 2 A n P) (hs : Recs w 2 B m L) (rh : Recs w 1 Ah nh fh) :
    Calls Try.prog 41 #[.agg #[.slice A n c, .slice B m d], .slice Ah nh ch] w fun e w' => e = .returned (.bool (histB n P m L nh fh)) ∧ Ext w w' := by
  have q0 : (w.alloc (.cells #[.slice A n c, .slice B m d] 27)).cell? ⟨w.heap.size, 0, none⟩ = some (.slice A n c) := by simp [go_sem]
  have q1 : (w.alloc (.cells #[.slice A n c, .slice B m d] 27)).cell? ⟨w.heap.size, 1, none⟩ = some (.slice B m d) := by simp [go_sem]
  have HIsWhole : Hid (∀ W, Ext w W → Calls Try.prog 63 #[.agg #[.slice A n c, .slice B m d]] W fun e w' => e = .returned (.bool (wholeB n P m L)) ∧ Ext W w') := Lib.hid (fun W Z => impl_IsWhole A n c P B m d L hnc hcm hmd hdm W (hr.ext Z) (hs.ext Z))
  have HFacesOf : Hid (∀ W, Ext w W → Calls Try.prog 64 #[.agg #[.slice A n c, .slice B m d]] W (PostF W (facesV n P m L))) := Lib.hid (fun W Z => impl_FacesOf A n c P B m d L hnc hcm hmd hdm W (hr.ext Z) (hs.ext Z))
  have hlen := faces_len (n := n) (m := m) (P := P) (L := L)
  have HV := Lib.hid (show histB n P m L nh fh = (wholeB n P m L && decide ((nh : Int) = ((facesV n P m L).length : Nat)) && allB nh (fun i => inB (fh i 0) 0 3000)) from rfl)
  have HALLW := Lib.hid (fun W (Z : Ext w W) => allWithin_any Ah nh ch fh ih jh 0 3000 W (rh.ext Z))
  cases hw : wholeB n P m L
  · rw [hw] at HIsWhole
    have HR := Lib.hid (show histB n P m L nh fh = false by rw [HV.out, hw]; rfl)
    clear hw
    go_enter Try.func41, Try.ntmps41
    go_wp2_with fail
    refine (HIsWhole.out _ (by repeat (first | exact Ext.refl _ | apply Ext.alloc))).mono ?_
    rintro e w1 ⟨rfl, x1⟩
    replace q0 := x1.cell q0
    replace q1 := x1.cell q1
    have X1 : Ext w w1 := Ext.trans (by repeat (first | exact Ext.refl _ | apply Ext.alloc)) x1
    go_wp2
    go_ret
    exact ⟨ret_b HR.out.symm, X1⟩
  · rw [hw] at HIsWhole
    by_cases hq : (nh : Int) = ((facesV n P m L).length : Nat)
    · have HQ := Lib.hid (show histB n P m L nh fh = allB nh (fun i => inB (fh i 0) 0 3000) by rw [HV.out, hw, decide_eq_true hq]; rfl)
      clear hw
      generalize facesV n P m L = R at *
      cases hall : allB nh (fun i => inB (fh i 0) 0 3000)
      · have HR := Lib.hid (show histB n P m L nh fh = false by rw [HQ.out, hall])
        rw [hall] at HALLW
        clear hall
        go_enter Try.func41, Try.ntmps41
        go_wp2_with fail
        refine (HIsWhole.out _ (by repeat (first | exact Ext.refl _ | apply Ext.alloc))).mono ?_
        rintro e w1 ⟨rfl, x1⟩
        replace q0 := x1.cell q0
        replace q1 := x1.cell q1
        have X1 : Ext w w1 := Ext.trans (by repeat (first | exact Ext.refl _ | apply Ext.alloc)) x1
        go_wp2_with fail
        refine (HFacesOf.out _ X1).mono ?_
        rintro e w2 ⟨AF, cF, rfl, iF, jF, hF, x2⟩
        replace q0 := x2.cell q0
        replace q1 := x2.cell q1
        have X2 : Ext w w2 := Ext.trans X1 x2
        go_wp2_with fail
        refine (HALLW.out _ X2).mono ?_
        rintro e w3 ⟨rfl, x3⟩
        replace q0 := x3.cell q0
        replace q1 := x3.cell q1
        have X3 : Ext w w3 := Ext.trans X2 x3
        go_wp2
        go_ret
        exact ⟨ret_b HR.out.symm, X3⟩
      · have HR := Lib.hid (show histB n P m L nh fh = true by rw [HQ.out, hall])
        rw [hall] at HALLW
        clear hall
        go_enter Try.func41, Try.ntmps41
        go_wp2_with fail
        refine (HIsWhole.out _ (by repeat (first | exact Ext.refl _ | apply Ext.alloc))).mono ?_
        rintro e w1 ⟨rfl, x1⟩
        replace q0 := x1.cell q0
        replace q1 := x1.cell q1
        have X1 : Ext w w1 := Ext.trans (by repeat (first | exact Ext.refl _ | apply Ext.alloc)) x1
        go_wp2_with fail
        refine (HFacesOf.out _ X1).mono ?_
        rintro e w2 ⟨AF, cF, rfl, iF, jF, hF, x2⟩
        replace q0 := x2.cell q0
        replace q1 := x2.cell q1
        have X2 : Ext w w2 := Ext.trans X1 x2
        go_wp2_with fail
        refine (HALLW.out _ X2).mono ?_
        rintro e w3 ⟨rfl, x3⟩
        replace q0 := x3.cell q0
        replace q1 := x3.cell q1
        have X3 : Ext w w3 := Ext.trans X2 x3
        go_wp2
        go_ret
        exact ⟨ret_b HR.out.symm, X3⟩
    · have HR := Lib.hid (show histB n P m L nh fh = false by rw [HV.out, hw, decide_eq_false hq]; rfl)
      have d1 : ((nh : Int) == (((facesV n P m L).length : Nat) : Int)) = false := beq_eq_false_iff_ne.2 hq
      clear hw
      generalize facesV n P m L = R at *
      go_enter Try.func41, Try.ntmps41
      go_wp2_with fail
      refine (HIsWhole.out _ (by repeat (first | exact Ext.refl _ | apply Ext.alloc))).mono ?_
      rintro e w1 ⟨rfl, x1⟩
      replace q0 := x1.cell q0
      replace q1 := x1.cell q1
      have X1 : Ext w w1 := Ext.trans (by repeat (first | exact Ext.refl _ | apply Ext.alloc)) x1
      go_wp2_with fail
      refine (HFacesOf.out _ X1).mono ?_
      rintro e w2 ⟨AF, cF, rfl, iF, jF, hF, x2⟩
      replace q0 := x2.cell q0
      replace q1 := x2.cell q1
      have X2 : Ext w w2 := Ext.trans X1 x2
      go_wp2
      go_ret
      exact ⟨ret_b HR.out.symm, X2⟩

end Go.Proofs.Ytgmhmlhdiklaaaa

/- HistS -/
namespace Go.Proofs.Ytgmhmlhdiklaaaa
open Go.RowKit Ring
set_option linter.unusedVariables false
end Go.Proofs.Ytgmhmlhdiklaaaa

/- OldV -/
namespace Go.Proofs.Ytgmhmlhdiklaaaa
open Go.RowKit Ring
set_option linter.unusedVariables false

def lstF (o : Int) (fh : Nat → Nat → Int) : Nat → Int
  | 0 => 3001
  | t + 1 => if (t : Int) = o then lstF o fh t else if lstF o fh t < fh t 0 then lstF o fh t else fh t 0
theorem lstF_out {o : Int} {fh : Nat → Nat → Int} {t : Nat} (h : (t : Int) = o) : lstF o fh (t + 1) = lstF o fh t := if_pos h
theorem lstF_old {o : Int} {fh : Nat → Nat → Int} {t : Nat} (h : ¬ (t : Int) = o) (g : lstF o fh t < fh t 0) : lstF o fh (t + 1) = lstF o fh t := by
  show (if (t : Int) = o then lstF o fh t else if lstF o fh t < fh t 0 then lstF o fh t else fh t 0) = _
  rw [if_neg h, if_pos g]
theorem lstF_new {o : Int} {fh : Nat → Nat → Int} {t : Nat} (h : ¬ (t : Int) = o) (g : ¬ lstF o fh t < fh t 0) : lstF o fh (t + 1) = fh t 0 := by
  show (if (t : Int) = o then lstF o fh t else if lstF o fh t < fh t 0 then lstF o fh t else fh t 0) = _
  rw [if_neg h, if_neg g]
def oldP (o ls : Int) (fh : Nat → Nat → Int) (i : Nat) : Bool := !decide ((i : Int) = o) && decide (fh i 0 = ls)
def oldV (n : Nat) (P : Nat → Nat → Int) (m : Nat) (L : Nat → Nat → Int) (nh : Nat) (fh : Nat → Nat → Int) : List Int := if histB n P m L nh fh = true then pick nh (oldP (outerV n P m L) (lstF (outerV n P m L) fh nh) fh) else []
theorem oldV_no {n : Nat} {P : Nat → Nat → Int} {m : Nat} {L : Nat → Nat → Int} {nh : Nat} {fh : Nat → Nat → Int} (h : histB n P m L nh fh = false) : oldV n P m L nh fh = [] := if_neg (by rw [h]; simp)
theorem oldV_yes {n : Nat} {P : Nat → Nat → Int} {m : Nat} {L : Nat → Nat → Int} {nh : Nat} {fh : Nat → Nat → Int} (h : histB n P m L nh fh = true) : oldV n P m L nh fh = pick nh (oldP (outerV n P m L) (lstF (outerV n P m L) fh nh) fh) := if_pos h
theorem oldV_le (n : Nat) (P : Nat → Nat → Int) (m : Nat) (L : Nat → Nat → Int) (nh : Nat) (fh : Nat → Nat → Int) (h : nh ≤ 1048576) : (oldV n P m L nh fh).length ≤ 1048576 := by
  unfold oldV
  split
  · exact Nat.le_trans (pick_len _ _) h
  · simp
theorem histB_len {n : Nat} {P : Nat → Nat → Int} {m : Nat} {L : Nat → Nat → Int} {nh : Nat} {fh : Nat → Nat → Int} (h : histB n P m L nh fh = true) : nh = (facesV n P m L).length ∧ ∀ i, i < nh → 0 ≤ fh i 0 ∧ fh i 0 ≤ 3000 := by
  unfold histB at h
  rw [Bool.and_eq_true, Bool.and_eq_true] at h
  have h1 : (nh : Int) = ((facesV n P m L).length : Nat) := by simpa using h.1.2
  exact ⟨by omega, fun i hi => inB_of (allB_get h.2 hi)⟩

end Go.Proofs.Ytgmhmlhdiklaaaa

/- OldI -/
namespace Go.Proofs.Ytgmhmlhdiklaaaa
open Go.RowKit Ring
set_option linter.unusedVariables false

set_option maxRecDepth 100000 in
set_option maxHeartbeats 8000000 in
theorem impl_OldestFaces (A : Option Addr) (n c : Nat) (P : Nat → Nat → Int) (B : Option Addr) (m d : Nat) (L : Nat → Nat → Int) (hnc : n ≤ c) (hcm : c ≤ 9223372036854775807) (hmd : m ≤ d) (hdm : d ≤ 9223372036854775807) (Ah : Option Addr) (nh ch : Nat) (fh : Nat → Nat → Int) (ih : nh ≤ ch) (jh : ch ≤ 9223372036854775807) (w : World) (hr : Recs w 2 A n P) (hs : Recs w 2 B m L) (rh : Recs w 1 Ah nh fh) :
    Calls Try.prog 43 #[.agg #[.slice A n c, .slice B m d], .slice Ah nh ch] w (PostI w 3 (oldV n P m L nh fh).length (oldV n P m L nh fh)) := by
  have HH := Lib.hid (fun W (Z : Ext w W) => impl_HistoryOk A n c P B m d L hnc hcm hmd hdm Ah nh ch fh ih jh W (hr.ext Z) (hs.ext Z) (rh.ext Z))
  have HOuterFace : Hid (∀ W, Ext w W → Calls Try.prog 65 #[.agg #[.slice A n c, .slice B m d]] W fun e w' => e = .returned (.int .i64 (outerV n P m L)) ∧ Ext W w') := Lib.hid (fun W Z => impl_OuterFace A n c P B m d L hnc hcm hmd hdm W (hr.ext Z) (hs.ext Z))
  have hor := outerV_rng (n := n) (m := m) (P := P) (L := L)
  have hlen := faces_len (n := n) (m := m) (P := P) (L := L)
  have q0 : (w.alloc (.cells #[.slice A n c, .slice B m d] 27)).cell? ⟨w.heap.size, 0, none⟩ = some (.slice A n c) := by simp [go_sem]
  have q1 : (w.alloc (.cells #[.slice A n c, .slice B m d] 27)).cell? ⟨w.heap.size, 1, none⟩ = some (.slice B m d) := by simp [go_sem]
  cases hh : histB n P m L nh fh
  · rw [hh] at HH
    have HV := Lib.hid (oldV_no hh)
    clear hh
    go_enter Try.func43, Try.ntmps43
    go_wp2_with fail
    refine (HH.out _ (by repeat (first | exact Ext.refl _ | apply Ext.alloc))).mono ?_
    rintro e w1 ⟨rfl, x1⟩
    have X1 : Ext w w1 := Ext.trans (by repeat (first | exact Ext.refl _ | apply Ext.alloc)) x1
    go_wp2
    go_ret
    rw [HV.out]
    exact ⟨none, 0, rfl, Nat.le_refl _, by omega, Mine.nil_ _ _ _, X1⟩
  · rw [hh] at HH
    have HV := Lib.hid (oldV_yes hh)
    obtain ⟨hnl, hbd⟩ := histB_len hh
    have HBD := Lib.hid hbd
    have hn20 : nh ≤ 20 := by omega
    clear hh hnl hbd
    generalize outerV n P m L = o at *
    go_enter Try.func43, Try.ntmps43
    go_wp2_with fail
    refine (HH.out _ (by repeat (first | exact Ext.refl _ | apply Ext.alloc))).mono ?_
    rintro e w1 ⟨rfl, x1⟩
    have XW1 : Ext w w1 := Ext.trans (by repeat (first | exact Ext.refl _ | apply Ext.alloc)) x1
    replace q0 := x1.cell q0
    replace q1 := x1.cell q1
    go_wp2_with fail
    refine (HOuterFace.out _ XW1).mono ?_
    rintro e w2 ⟨rfl, x2⟩
    have X2 : Ext (w.alloc (.cells #[.slice A n c, .slice B m d] 27)) w2 := x1.trans x2
    have XW2 : Ext w w2 := XW1.trans x2
    have XB2 := x1.trans x2
    clear q0 q1 x1 XW1
    go_wp2
    go_loopw [6, 20] (fun v i wr => ∃ t : Nat, t ≤ nh ∧ v = .int .i64 (lstF o fh t) ∧ i = .int .i64 t ∧ (-1 ≤ lstF o fh t ∧ lstF o fh t ≤ 3001) ∧ Ext w2 wr) (fun _ i _ => nh - (intOf i).toNat)
    case atStart => exact ⟨0, Nat.zero_le _, rfl, rfl, ⟨by simp [lstF], by simp [lstF]⟩, Ext.refl _⟩
    case round =>
      obtain ⟨t, ht, rfl, rfl, hrng, X⟩ := hrel
      by_cases hlt : t < nh
      · obtain ⟨b, off, rfl, hb, c0⟩ := rh.at1 hlt
        replace c0 := (XW2.trans X).cell c0
        have k1 : (0 : Int) ≤ (t : Int) := by omega
        have k2 : (t : Int) < (nh : Int) := by omega
        have hbt := HBD.out t hlt
        by_cases ho : (t : Int) = o
        · have HL := Lib.hid (lstF_out (fh := fh) ho)
          have d1 : ((t : Int) != o) = false := by simp [ho]
          clear ho
          generalize lstF o fh t = ls at *
          go_wp2
          go_roundw
          case rel => exact ⟨t + 1, by omega, by rw [HL.out], by go_num, by rw [HL.out]; exact hrng, X⟩
          case measure => simp [intOf]; omega
        · have d1 : ((t : Int) != o) = true := by simp [ho]
          by_cases hg : lstF o fh t < fh t 0
          · have HL := Lib.hid (lstF_old ho hg)
            clear ho
            generalize lstF o fh t = ls at *
            generalize fh t 0 = y at *
            go_wp2
            go_roundw
            case rel => exact ⟨t + 1, by omega, by rw [HL.out], by go_num, by rw [HL.out]; exact hrng, X⟩
            case measure => simp [intOf]; omega
          · have HL := Lib.hid (lstF_new ho hg)
            clear ho
            generalize lstF o fh t = ls at *
            generalize fh t 0 = y at *
            go_wp2
            all_goals
              go_roundw
              case rel => exact ⟨t + 1, by omega, by rw [HL.out]; first | rfl | (congr 1; omega), by go_num, by rw [HL.out]; omega, X⟩
              case measure => simp [intOf]; omega
      · obtain rfl : nh = t := by omega
        have XX2 := X2.trans X
        have XXW2 := XW2.trans X
        have hm2 : Mine (w.heap.size + 1) wr 3 (.slice none 0 0) 0 [] := Mine.nil_ _ _ _
        clear X X2 XW2 x2 
        generalize lstF o fh nh = ls at *
        go_wp2
        go_loopw [9, 34] (fun v i wq => ∃ t : Nat, t ≤ nh ∧ i = .int .i64 t ∧ Ext (w.alloc (.cells #[.slice A n c, .slice B m d] 27)) wq ∧ Mine (w.heap.size + 1) wq 3 v (pick t (oldP o ls fh)).length (pick t (oldP o ls fh))) (fun _ i _ => nh - (intOf i).toNat)
        case atStart => exact ⟨0, Nat.zero_le _, rfl, XX2, hm2⟩
        case round =>
          clear hm2 XX2 XXW2
          obtain ⟨t, ht, rfl, X, hm⟩ := hrel
          have hpl := pick_len t (oldP o ls fh)
          have hbs := X.size
          have XW : Ext w _ := Ext.trans (by repeat (first | exact Ext.refl _ | apply Ext.alloc)) X
          by_cases hlt : t < nh
          · obtain ⟨b, off, rfl, hb, c0⟩ := rh.at1 hlt
            replace c0 := XW.cell c0
            have k1 : (0 : Int) ≤ (t : Int) := by omega
            have k2 : (t : Int) < (nh : Int) := by omega
            by_cases ho : (t : Int) = o
            · have HP := Lib.hid (pick_no (p := oldP o ls fh) (n := t) (by simp [oldP, ho]))
              have d1 : ((t : Int) != o) = false := by simp [ho]
              clear ho
              go_wp2
              go_roundw
              case rel => exact ⟨t + 1, by omega, by go_num, X, by rw [HP.out]; exact hm⟩
              case measure => simp [intOf]; omega
            · have d1 : ((t : Int) != o) = true := by simp [ho]
              by_cases hy : fh t 0 = ls
              · have HP := Lib.hid (pick_yes (p := oldP o ls fh) (n := t) (by simp [oldP, ho, hy]))
                rw [hy] at c0
                clear ho hy
                go_wp2_with (at_builtin; refine append_int _ rfl _ _ rfl (w.heap.size + 1) _ _ _ rfl (hm.alloc _) (t : Int) _ rfl (cell_new1 (by simp)) (by unfold I64; omega) (by omega) (by rw [World.size_alloc]; rw [World.size_alloc] at hbs; omega) ?_; intro v2 w4 hm4 hg4; have he4 := (hm.alloc (.cells #[.int .i64 (t : Int)] 3)).fresh (X.alloc (.cells #[.int .i64 (t : Int)] 3)) (by rw [World.size_alloc]; exact Nat.le_refl _) hg4 rfl)
                go_roundw
                case rel => exact ⟨t + 1, by omega, by go_num, he4, by rw [HP.out]; simpa using hm4⟩
                case measure => simp [intOf]; omega
              · have HP := Lib.hid (pick_no (p := oldP o ls fh) (n := t) (by simp [oldP, hy]))
                have d2 : (fh t 0 == ls) = false := by simp [hy]
                have d3 : decide (fh t 0 = ls) = false := by simp [hy]
                clear ho hy
                generalize fh t 0 = y at *
                go_wp2
                go_roundw
                case rel => exact ⟨t + 1, by omega, by go_num, X, by rw [HP.out]; exact hm⟩
                case measure => simp [intOf]; omega
          · obtain rfl : nh = t := by omega
            obtain ⟨A', c', rfl, hc1, hc2⟩ := hm.form
            go_wp2
            go_ret
            rw [HV.out]
            exact ⟨A', c', rfl, hc1, hc2, hm.more (by omega), XW⟩

end Go.Proofs.Ytgmhmlhdiklaaaa

/- OldS -/
namespace Go.Proofs.Ytgmhmlhdiklaaaa
open Go.RowKit Ring
set_option linter.unusedVariables false
end Go.Proofs.Ytgmhmlhdiklaaaa
