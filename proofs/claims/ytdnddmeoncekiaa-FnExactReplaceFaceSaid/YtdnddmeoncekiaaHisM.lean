/-
  Texts of one kind, one behind the other: HistI HistS. No conditions.
-/
import Derived.Test.YtdnddmeoncekiaaSmaM
import Derived.Test.YtdnddmeoncekiaaAreM
import Derived.Test.YtdnddmeoncekiaaFdx
/- HistI -/
namespace Go.Proofs.Ytdnddmeoncekiaa
open Go.RowKit Ring
set_option linter.unusedVariables false

set_option maxHeartbeats 2000000 in
theorem allWithin_any (Ah : Option Addr) (nh ch : Nat) (fh : Nat → Nat → Int) (ih : nh ≤ ch) (jh : ch ≤ 9223372036854775807) (lo hi : Int) (w : World) (rh : Recs w 1 Ah nh fh) :
    Calls Try.prog 66 #[.slice Ah nh ch, .int .i64 lo, .int .i64 hi] w fun e w' => e = .returned (.bool (allB nh fun i => inB (fh i 0) lo hi)) ∧ Ext w w' := by
  go_enter Try.func66, Try.ntmps66
  go_wp2
  go_loopw [11] (fun i wr => ∃ k : Nat, k ≤ nh ∧ i = .int .i64 k ∧ Ext w wr ∧ ∀ j, j < k → inB (fh j 0) lo hi = true) (fun i _ => nh - (intOf i).toNat)
  case atStart => exact ⟨0, Nat.zero_le _, rfl, Ext.refl _, fun j hj => absurd hj (by omega)⟩
  case round =>
    obtain ⟨k, hk, rfl, X, hall⟩ := hrel
    have HALL := Lib.hid hall
    clear hall
    by_cases hlt : k < nh
    · obtain ⟨b, o, rfl, hb, c0⟩ := rh.at1 hlt
      replace c0 := X.cell c0
      have k1 : (0 : Int) ≤ (k : Int) := by omega
      have k2 : (k : Int) < (nh : Int) := by omega
      have HI := Lib.hid (fun W => within_any (fh k 0) lo hi W)
      cases hin : inB (fh k 0) lo hi
      · have HR := Lib.hid (allB_no (p := fun i => inB (fh i 0) lo hi) hlt hin)
        rw [hin] at HI
        clear hin
        go_wp2_with fail
        refine (HI.out _).mono ?_
        rintro e w2 ⟨rfl, x2⟩
        go_wp2
        go_ret
        exact ⟨ret_b HR.out.symm, X.trans x2⟩
      · have HALL2 : Hid (∀ j, j < k + 1 → inB (fh j 0) lo hi = true) := Lib.hid (fun j hj => by
          by_cases e : j = k
          · rw [e]; exact hin
          · exact HALL.out j (by omega))
        rw [hin] at HI
        clear hin
        go_wp2_with fail
        refine (HI.out _).mono ?_
        rintro e w2 ⟨rfl, x2⟩
        go_wp2
        go_roundw
        case rel => exact ⟨k + 1, by omega, by go_num, X.trans x2, HALL2.out⟩
        case measure => simp [intOf]; omega
    · obtain rfl : k = nh := by omega
      have HR := Lib.hid (allB_yes (p := fun i => inB (fh i 0) lo hi) HALL.out)
      go_wp2
      go_ret
      exact ⟨ret_b HR.out.symm, X⟩

set_option maxRecDepth 100000 in
set_option maxHeartbeats 8000000 in
theorem impl_HistoryOk (A : Option Addr) (n c : Nat) (P : Nat → Nat → Int) (B : Option Addr) (m d : Nat) (L : Nat → Nat → Int) (hnc : n ≤ c) (hcm : c ≤ 9223372036854775807) (hmd : m ≤ d) (hdm : d ≤ 9223372036854775807) (Ah : Option Addr) (nh ch : Nat) (fh : Nat → Nat → Int) (ih : nh ≤ ch) (jh : ch ≤ 9223372036854775807) (w : World) (hr : Recs w 2 A n P) (hs : Recs w 2 B m L) (rh : Recs w 1 Ah nh fh) :
    Calls Try.prog 44 #[.agg #[.slice A n c, .slice B m d], .slice Ah nh ch] w fun e w' => e = .returned (.bool (histB n P m L nh fh)) ∧ Ext w w' := by
  have q0 : (w.alloc (.cells #[.slice A n c, .slice B m d] 31)).cell? ⟨w.heap.size, 0, none⟩ = some (.slice A n c) := by simp [go_sem]
  have q1 : (w.alloc (.cells #[.slice A n c, .slice B m d] 31)).cell? ⟨w.heap.size, 1, none⟩ = some (.slice B m d) := by simp [go_sem]
  have HIsWhole : Hid (∀ W, Ext w W → Calls Try.prog 33 #[.agg #[.slice A n c, .slice B m d]] W fun e w' => e = .returned (.bool (wholeB n P m L)) ∧ Ext W w') := Lib.hid (fun W Z => impl_IsWhole A n c P B m d L hnc hcm hmd hdm W (hr.ext Z) (hs.ext Z))
  have HFacesOf : Hid (∀ W, Ext w W → Calls Try.prog 35 #[.agg #[.slice A n c, .slice B m d]] W (PostF W (facesV n P m L))) := Lib.hid (fun W Z => impl_FacesOf A n c P B m d L hnc hcm hmd hdm W (hr.ext Z) (hs.ext Z))
  have hlen := faces_len (n := n) (m := m) (P := P) (L := L)
  have HV := Lib.hid (show histB n P m L nh fh = (wholeB n P m L && decide ((nh : Int) = ((facesV n P m L).length : Nat)) && allB nh (fun i => inB (fh i 0) 0 3000)) from rfl)
  have HALLW := Lib.hid (fun W (Z : Ext w W) => allWithin_any Ah nh ch fh ih jh 0 3000 W (rh.ext Z))
  cases hw : wholeB n P m L
  · rw [hw] at HIsWhole
    have HR := Lib.hid (show histB n P m L nh fh = false by rw [HV.out, hw]; rfl)
    clear hw
    go_enter Try.func44, Try.ntmps44
    go_wp2_with fail
    refine (HIsWhole.out _ (by repeat (first | exact Ext.refl _ | apply Ext.alloc))).mono ?_
    rintro e w1 ⟨rfl, x1⟩
    replace q0 := x1.cell q0
    replace q1 := x1.cell q1
    have X1 : Ext w w1 := Ext.trans (by repeat (first | exact Ext.refl _ | apply Ext.alloc)) x1
    go_wp2
    go_ret
    exact ⟨ret_b HR.out.symm, X1⟩
  · rw [hw] at HIsWhole
    by_cases hq : (nh : Int) = ((facesV n P m L).length : Nat)
    · have HQ := Lib.hid (show histB n P m L nh fh = allB nh (fun i => inB (fh i 0) 0 3000) by rw [HV.out, hw, decide_eq_true hq]; rfl)
      clear hw
      generalize facesV n P m L = R at *
      cases hall : allB nh (fun i => inB (fh i 0) 0 3000)
      · have HR := Lib.hid (show histB n P m L nh fh = false by rw [HQ.out, hall])
        rw [hall] at HALLW
        clear hall
        go_enter Try.func44, Try.ntmps44
        go_wp2_with fail
        refine (HIsWhole.out _ (by repeat (first | exact Ext.refl _ | apply Ext.alloc))).mono ?_
        rintro e w1 ⟨rfl, x1⟩
        replace q0 := x1.cell q0
        replace q1 := x1.cell q1
        have X1 : Ext w w1 := Ext.trans (by repeat (first | exact Ext.refl _ | apply Ext.alloc)) x1
        go_wp2_with fail
        refine (HFacesOf.out _ X1).mono ?_
        rintro e w2 ⟨AF, cF, rfl, iF, jF, hF, x2⟩
        replace q0 := x2.cell q0
        replace q1 := x2.cell q1
        have X2 : Ext w w2 := Ext.trans X1 x2
        go_wp2_with fail
        refine (HALLW.out _ X2).mono ?_
        rintro e w3 ⟨rfl, x3⟩
        replace q0 := x3.cell q0
        replace q1 := x3.cell q1
        have X3 : Ext w w3 := Ext.trans X2 x3
        go_wp2
        go_ret
        exact ⟨ret_b HR.out.symm, X3⟩
      · have HR := Lib.hid (show histB n P m L nh fh = true by rw [HQ.out, hall])
        rw [hall] at HALLW
        clear hall
        go_enter Try.func44, Try.ntmps44
        go_wp2_with fail
        refine (HIsWhole.out _ (by repeat (first | exact Ext.refl _ | apply Ext.alloc))).mono ?_
        rintro e w1 ⟨rfl, x1⟩
        replace q0 := x1.cell q0
        replace q1 := x1.cell q1
        have X1 : Ext w w1 := Ext.trans (by repeat (first | exact Ext.refl _ | apply Ext.alloc)) x1
        go_wp2_with fail
        refine (HFacesOf.out _ X1).mono ?_
        rintro e w2 ⟨AF, cF, rfl, iF, jF, hF, x2⟩
        replace q0 := x2.cell q0
        replace q1 := x2.cell q1
        have X2 : Ext w w2 := Ext.trans X1 x2
        go_wp2_with fail
        refine (HALLW.out _ X2).mono ?_
        rintro e w3 ⟨rfl, x3⟩
        replace q0 := x3.cell q0
        replace q1 := x3.cell q1
        have X3 : Ext w w3 := Ext.trans X2 x3
        go_wp2
        go_ret
        exact ⟨ret_b HR.out.symm, X3⟩
    · have HR := Lib.hid (show histB n P m L nh fh = false by rw [HV.out, hw, decide_eq_false hq]; rfl)
      have d1 : ((nh : Int) == (((facesV n P m L).length : Nat) : Int)) = false := beq_eq_false_iff_ne.2 hq
      clear hw
      generalize facesV n P m L = R at *
      go_enter Try.func44, Try.ntmps44
      go_wp2_with fail
      refine (HIsWhole.out _ (by repeat (first | exact Ext.refl _ | apply Ext.alloc))).mono ?_
      rintro e w1 ⟨rfl, x1⟩
      replace q0 := x1.cell q0
      replace q1 := x1.cell q1
      have X1 : Ext w w1 := Ext.trans (by repeat (first | exact Ext.refl _ | apply Ext.alloc)) x1
      go_wp2_with fail
      refine (HFacesOf.out _ X1).mono ?_
      rintro e w2 ⟨AF, cF, rfl, iF, jF, hF, x2⟩
      replace q0 := x2.cell q0
      replace q1 := x2.cell q1
      have X2 : Ext w w2 := Ext.trans X1 x2
      go_wp2
      go_ret
      exact ⟨ret_b HR.out.symm, X2⟩

end Go.Proofs.Ytdnddmeoncekiaa

/- HistS -/
namespace Go.Proofs.Ytdnddmeoncekiaa
open Go.RowKit Ring
set_option linter.unusedVariables false

set_option maxRecDepth 100000 in
set_option maxHeartbeats 8000000 in
theorem spec_HistoryOk (A : Option Addr) (n c : Nat) (P : Nat → Nat → Int) (B : Option Addr) (m d : Nat) (L : Nat → Nat → Int) (hnc : n ≤ c) (hcm : c ≤ 9223372036854775807) (hmd : m ≤ d) (hdm : d ≤ 9223372036854775807) (Ah : Option Addr) (nh ch : Nat) (fh : Nat → Nat → Int) (ih : nh ≤ ch) (jh : ch ≤ 9223372036854775807) (w : World) (hr : Recs w 2 A n P) (hs : Recs w 2 B m L) (rh : Recs w 1 Ah nh fh) :
    Calls Try.prog 41 #[.agg #[.slice A n c, .slice B m d], .slice Ah nh ch] w fun e w' => e = .returned (.bool (histB n P m L nh fh)) ∧ Ext w w' := by
  have q0 : (w.alloc (.cells #[.slice A n c, .slice B m d] 31)).cell? ⟨w.heap.size, 0, none⟩ = some (.slice A n c) := by simp [go_sem]
  have q1 : (w.alloc (.cells #[.slice A n c, .slice B m d] 31)).cell? ⟨w.heap.size, 1, none⟩ = some (.slice B m d) := by simp [go_sem]
  have HIsWhole : Hid (∀ W, Ext w W → Calls Try.prog 28 #[.agg #[.slice A n c, .slice B m d]] W fun e w' => e = .returned (.bool (wholeB n P m L)) ∧ Ext W w') := Lib.hid (fun W Z => spec_IsWhole A n c P B m d L hnc hcm hmd hdm W (hr.ext Z) (hs.ext Z))
  have HFacesOf : Hid (∀ W, Ext w W → Calls Try.prog 42 #[.agg #[.slice A n c, .slice B m d]] W (PostF W (facesV n P m L))) := Lib.hid (fun W Z => spec_FacesOf A n c P B m d L hnc hcm hmd hdm W (hr.ext Z) (hs.ext Z))
  have hlen := faces_len (n := n) (m := m) (P := P) (L := L)
  have HV := Lib.hid (show histB n P m L nh fh = (wholeB n P m L && decide ((nh : Int) = ((facesV n P m L).length : Nat)) && allB nh (fun i => inB (fh i 0) 0 3000)) from rfl)
  have Q0 := Lib.hid q0
  have Q1 := Lib.hid q1
  clear q0 q1
  go_enter Try.func41, Try.ntmps41
  go_wp2
  go_loopw [5] (fun i wr => ∃ k : Nat, k ≤ nh ∧ i = .int .i64 k ∧ Ext (w.alloc (.cells #[.slice A n c, .slice B m d] 31)) wr ∧ ∀ j, j < k → inB (fh j 0) 0 3000 = true) (fun i _ => nh - (intOf i).toNat)
  case atStart => exact ⟨0, Nat.zero_le _, rfl, Ext.refl _, fun j hj => absurd hj (by omega)⟩
  case round =>
    obtain ⟨k, hk, rfl, X, hall⟩ := hrel
    have HALL := Lib.hid hall
    clear hall
    have XW := ((Ext.refl w).alloc (.cells #[.slice A n c, .slice B m d] 31)).trans X
    by_cases hlt : k < nh
    · obtain ⟨b, o, rfl, hb, c0⟩ := rh.at1 hlt
      replace c0 := XW.cell c0
      have k1 : (0 : Int) ≤ (k : Int) := by omega
      have k2 : (k : Int) < (nh : Int) := by omega
      have HI := Lib.hid (fun W => l01In_any (fh k 0) 0 3000 W)
      cases hin : inB (fh k 0) 0 3000
      · have HR := Lib.hid (show histB n P m L nh fh = false by rw [HV.out, allB_no (p := fun i => inB (fh i 0) 0 3000) hlt hin, Bool.and_false])
        rw [hin] at HI
        clear hin
        go_wp2_with fail
        refine (HI.out _).mono ?_
        rintro e w2 ⟨rfl, x2⟩
        go_wp2
        go_ret
        exact ⟨ret_b HR.out.symm, XW.trans x2⟩
      · have HALL2 : Hid (∀ j, j < k + 1 → inB (fh j 0) 0 3000 = true) := Lib.hid (fun j hj => by
          by_cases e : j = k
          · rw [e]; exact hin
          · exact HALL.out j (by omega))
        rw [hin] at HI
        clear hin
        go_wp2_with fail
        refine (HI.out _).mono ?_
        rintro e w2 ⟨rfl, x2⟩
        go_wp2
        go_roundw
        case rel => exact ⟨k + 1, by omega, by go_num, X.trans x2, HALL2.out⟩
        case measure => simp [intOf]; omega
    · obtain rfl : nh = k := by omega
      have HALL1 := Lib.hid (allB_yes (p := fun i => inB (fh i 0) 0 3000) HALL.out)
      have q0 := X.cell Q0.out
      have q1 := X.cell Q1.out
      cases hw : wholeB n P m L
      · rw [hw] at HIsWhole
        have HR := Lib.hid (show histB n P m L nh fh = false by rw [HV.out, hw]; rfl)
        clear hw
        go_wp2_with fail
        refine (HIsWhole.out _ XW).mono ?_
        rintro e w1 ⟨rfl, x1⟩
        replace q0 := x1.cell q0
        replace q1 := x1.cell q1
        have X1 : Ext w w1 := Ext.trans XW x1
        go_wp2
        go_ret
        exact ⟨ret_b HR.out.symm, X1⟩
      · rw [hw] at HIsWhole
        by_cases hq : (nh : Int) = ((facesV n P m L).length : Nat)
        · have HQ := Lib.hid (show histB n P m L nh fh = allB nh (fun i => inB (fh i 0) 0 3000) by rw [HV.out, hw, decide_eq_true hq]; rfl)
          clear hw
          generalize facesV n P m L = R at *
          have HR := Lib.hid (show histB n P m L nh fh = true by rw [HQ.out, HALL1.out])
          go_wp2_with fail
          refine (HIsWhole.out _ XW).mono ?_
          rintro e w1 ⟨rfl, x1⟩
          replace q0 := x1.cell q0
          replace q1 := x1.cell q1
          have X1 : Ext w w1 := Ext.trans XW x1
          go_wp2_with fail
          refine (HFacesOf.out _ X1).mono ?_
          rintro e w2 ⟨AF, cF, rfl, iF, jF, hF, x2⟩
          replace q0 := x2.cell q0
          replace q1 := x2.cell q1
          have X2 : Ext w w2 := Ext.trans X1 x2
          go_wp2
          go_ret
          exact ⟨ret_b HR.out.symm, X2⟩
        · have HR := Lib.hid (show histB n P m L nh fh = false by rw [HV.out, hw, decide_eq_false hq]; rfl)
          have d1 : ((nh : Int) == (((facesV n P m L).length : Nat) : Int)) = false := beq_eq_false_iff_ne.2 hq
          clear hw
          generalize facesV n P m L = R at *
          go_wp2_with fail
          refine (HIsWhole.out _ XW).mono ?_
          rintro e w1 ⟨rfl, x1⟩
          replace q0 := x1.cell q0
          replace q1 := x1.cell q1
          have X1 : Ext w w1 := Ext.trans XW x1
          go_wp2_with fail
          refine (HFacesOf.out _ X1).mono ?_
          rintro e w2 ⟨AF, cF, rfl, iF, jF, hF, x2⟩
          replace q0 := x2.cell q0
          replace q1 := x2.cell q1
          have X2 : Ext w w2 := Ext.trans X1 x2
          go_wp2
          go_ret
          exact ⟨ret_b HR.out.symm, X2⟩

end Go.Proofs.Ytdnddmeoncekiaa
