/-
  Original area, on the reference's side. No conditions.
-/
import Derived.Test.YtdnddmeoncekiaaSixV
import Derived.Test.YtdnddmeoncekiaaHisM
namespace Go.Proofs.Ytdnddmeoncekiaa
open Go.RowKit Ring
set_option linter.unusedVariables false

set_option maxRecDepth 100000 in
set_option maxHeartbeats 8000000 in
theorem spec_OriginalArea (A : Option Addr) (n c : Nat) (P : Nat → Nat → Int) (B : Option Addr) (m d : Nat) (L : Nat → Nat → Int) (hnc : n ≤ c) (hcm : c ≤ 9223372036854775807) (hmd : m ≤ d) (hdm : d ≤ 9223372036854775807) (Ah : Option Addr) (nh ch : Nat) (fh : Nat → Nat → Int) (ih : nh ≤ ch) (jh : ch ≤ 9223372036854775807) (w : World) (hr : Recs w 2 A n P) (hs : Recs w 2 B m L) (rh : Recs w 1 Ah nh fh) :
    Calls Try.prog 13 #[.agg #[.slice A n c, .slice B m d], .slice Ah nh ch] w fun e w' => e = .returned (.int .i64 (origV n P m L nh fh)) ∧ Ext w w' := by
  have HH := Lib.hid (fun W (Z : Ext w W) => spec_HistoryOk A n c P B m d L hnc hcm hmd hdm Ah nh ch fh ih jh W (hr.ext Z) (hs.ext Z) (rh.ext Z))
  have HFO : Hid (∀ W, Ext w W → Calls Try.prog 42 #[.agg #[.slice A n c, .slice B m d]] W (PostF W (facesV n P m L))) := Lib.hid (fun W Z => spec_FacesOf A n c P B m d L hnc hcm hmd hdm W (hr.ext Z) (hs.ext Z))
  have HAR := Lib.hid (fun k (hk : k < (facesV n P m L).length) (B2 : Option Addr) (c2 : Nat) (h1 : ((facesV n P m L).getD k []).length ≤ c2) (h2 : c2 ≤ 9223372036854775807) W (Z : Ext w W) (hrow : Recs W 1 B2 ((facesV n P m L).getD k []).length (fun i _ => ((((facesV n P m L).getD k []).getD i 0 : Nat) : Int))) => (show Calls Try.prog 43 #[.agg #[.slice A n c, .slice B m d], .slice B2 ((facesV n P m L).getD k []).length c2] W fun e w' => e = .returned (.int .i64 (faceA n P m L k)) ∧ Ext W w' from spec_l06Area A n c P B m d L hnc hcm hmd hdm ((facesV n P m L).getD k []) B2 c2 h1 h2 (faces_row hk).1 (faces_row hk).2.2.1 (faces_row hk).2.2.2 W (hr.ext Z) (hs.ext Z) hrow))
  have HBX := Lib.hid (fun k (hk : k < (facesV n P m L).length) => faceA_box hk)
  have hlen := faces_len (n := n) (m := m) (P := P) (L := L)
  have q0 : (w.alloc (.cells #[.slice A n c, .slice B m d] 31)).cell? ⟨w.heap.size, 0, none⟩ = some (.slice A n c) := by simp [go_sem]
  have q1 : (w.alloc (.cells #[.slice A n c, .slice B m d] 31)).cell? ⟨w.heap.size, 1, none⟩ = some (.slice B m d) := by simp [go_sem]
  clear hr hs
  cases hh : histB n P m L nh fh
  · rw [hh] at HH
    have HV := Lib.hid (origV_no hh)
    clear hh
    go_enter Try.func13, Try.ntmps13
    go_wp2_with fail
    refine (HH.out _ (by repeat (first | exact Ext.refl _ | apply Ext.alloc))).mono ?_
    rintro e w1 ⟨rfl, x1⟩
    replace q0 := x1.cell q0
    replace q1 := x1.cell q1
    have X1 : Ext w w1 := Ext.trans (by repeat (first | exact Ext.refl _ | apply Ext.alloc)) x1
    go_wp2
    go_ret
    exact ⟨ret_i HV.out.symm, X1⟩
  · rw [hh] at HH
    obtain ⟨hw, hnl, hbd⟩ := histB_get hh
    obtain ⟨ko, hko, ho, hon, hin⟩ := wall_only hw
    skip
    have HV := Lib.hid (origV_yes hh)
    have HRG := Lib.hid (fun t (ht : t ≤ nh) => orig_rng (n := n) (P := P) (m := m) (L := L) (fh := fh) (nh := nh) (by omega) t ht)
    have HAV := Lib.hid (fun t (ht : t < nh) (hne : t ≠ ko) => hin t (by omega) hne)
    have HG0 := Lib.hid (orig_out (fh := fh) hon)
    have HG1 := Lib.hid (fun t (h : fh t 0 = 0) => orig_new (n := n) (P := P) (m := m) (L := L) h)
    have HG2 := Lib.hid (fun t (h : ¬ fh t 0 = 0) => orig_old (n := n) (P := P) (m := m) (L := L) h)
    have HNL := Lib.hid hnl
    have hn20 : nh ≤ 20 := by omega
    clear hh hw hbd hin ho hnl
    generalize facesV n P m L = R at *
    generalize faceA n P m L = fa at *
    generalize origG n P m L fh = g at *
    go_enter Try.func13, Try.ntmps13
    go_wp2_with fail
    refine (HH.out _ (by repeat (first | exact Ext.refl _ | apply Ext.alloc))).mono ?_
    rintro e w1 ⟨rfl, x1⟩
    replace q0 := x1.cell q0
    replace q1 := x1.cell q1
    have X1 : Ext w w1 := Ext.trans (by repeat (first | exact Ext.refl _ | apply Ext.alloc)) x1
    go_wp2_with fail
    refine (HFO.out _ X1).mono ?_
    rintro e w2 ⟨AF, cF, rfl, iF, jF, hF, x2⟩
    replace q0 := x2.cell q0
    replace q1 := x2.cell q1
    have X2 : Ext w w2 := Ext.trans X1 x2
    have Q0 := Lib.hid q0
    have Q1 := Lib.hid q1
    have HF := Lib.hid hF
    clear q0 q1 x1 x2 hF HFO
    go_wp2
    go_loopw [5, 7] (fun s i wr => ∃ t : Nat, t ≤ R.length ∧ s = .int .i64 (psum g t) ∧ i = .int .i64 t ∧ Ext w2 wr) (fun _ i _ => R.length - (intOf i).toNat)
    case atStart => exact ⟨0, Nat.zero_le _, rfl, rfl, Ext.refl _⟩
    case round =>
      obtain ⟨t, ht, rfl, rfl, X⟩ := hrel
      have q0 := X.cell Q0.out
      have q1 := X.cell Q1.out
      have XW := X2.trans X
      have hnl := HNL.out
      have hrg := HRG.out t (by omega)
      by_cases hlt : t < R.length
      · obtain ⟨b, off, rfl, hb, c0⟩ := rh.at1 (k := t) (by omega)
        replace c0 := XW.cell c0
        obtain ⟨b', o', Bk, ck, rfl, hb', hck, i1, i2, hrow⟩ := HF.out.at_ hlt
        replace hck := X.cell hck
        have hbx := HBX.out t hlt
        have HAk := Lib.hid (fun W (Z : Ext wr W) => HAR.out t hlt Bk ck i1 i2 W (XW.trans Z) (hrow.ext (X.trans Z)))
        have k1 : (0 : Int) ≤ (t : Int) := by omega
        have k2 : (t : Int) < (nh : Int) := by omega
        have k3 : (t : Int) < (R.length : Int) := by omega
        have hl0 : (0 : Int) ≤ ((R.getD t []).length : Int) := by omega
        have HSU : Hid (psum g (t + 1) = psum g t + g t) := Lib.hid rfl
        clear hrow hnl
        by_cases h0 : fh t 0 = 0
        · have d2 : (fh t 0 == 0) = true := by simp [h0]
          have HS := Lib.hid (show psum g (t + 1) = psum g t + max 0 (fa t) by rw [HSU.out, HG1.out t h0])
          clear h0
          generalize fa t = a at *
          generalize R.getD t [] = r at *
          generalize psum g t = s1 at *
          by_cases ha : a < 0
          · have HS2 := Lib.hid (show psum g (t + 1) = s1 + 0 by rw [HS.out]; omega)
            go_wp2
            first | refine wp_region_gr2 (by kernel_rfl) (by kernel_rfl) ?_ | refine wp_region_gr (by kernel_rfl) (by kernel_rfl) ?_
            repeat (go_big_quiet_step ((go_at_call 43; exact gr_of (HAk.out _ (by repeat (first | exact Ext.refl _ | apply Ext.wgr | apply Ext.drew | apply Ext.drewN | apply Ext.alloc))))))
            refine wpQuiet_nil ?_
            intro _ hw'
            obtain ⟨gq, hw''⟩ := hw'
            subst hw''
            have X5 := X.wgr gq
            go_wp2
            go_roundw
            case rel => exact ⟨t + 1, by omega, by rw [HS2.out]; first | rfl | (congr 1; omega), by go_num, X5⟩
            case measure => simp [intOf]; omega
          · have HS2 := Lib.hid (show psum g (t + 1) = s1 + a by rw [HS.out]; omega)
            go_wp2
            first | refine wp_region_gr2 (by kernel_rfl) (by kernel_rfl) ?_ | refine wp_region_gr (by kernel_rfl) (by kernel_rfl) ?_
            repeat (go_big_quiet_step ((go_at_call 43; exact gr_of (HAk.out _ (by repeat (first | exact Ext.refl _ | apply Ext.wgr | apply Ext.drew | apply Ext.drewN | apply Ext.alloc))))))
            refine wpQuiet_nil ?_
            intro _ hw'
            obtain ⟨gq, hw''⟩ := hw'
            subst hw''
            have X5 := X.wgr gq
            go_wp2
            all_goals
              go_roundw
              case rel => exact ⟨t + 1, by omega, by rw [HS2.out]; first | rfl | (congr 1; omega), by go_num, X5⟩
              case measure => simp [intOf]; omega
        · have d2 : (fh t 0 == 0) = false := by simp [h0]
          have HS := Lib.hid (show psum g (t + 1) = psum g t by rw [HSU.out, HG2.out t h0]; omega)
          clear h0
          generalize R.getD t [] = r at *
          generalize psum g t = s1 at *
          go_wp2
          go_roundw
          case rel => exact ⟨t + 1, by omega, by rw [HS.out], by go_num, X⟩
          case measure => simp [intOf]; omega
      · obtain rfl : t = R.length := by omega
        have HN2 := Lib.hid (show psum g R.length = psum g nh by rw [HNL.out])
        clear hnl
        go_wp2
        go_ret
        exact ⟨ret_i (by rw [HV.out, HN2.out]), XW⟩

set_option maxRecDepth 100000 in
set_option maxHeartbeats 4000000 in
theorem spec_l28Greatest (A : Option Addr) (n c : Nat) (P : Nat → Nat → Int) (B : Option Addr) (m d : Nat) (L : Nat → Nat → Int) (hnc : n ≤ c) (hcm : c ≤ 9223372036854775807) (hmd : m ≤ d) (hdm : d ≤ 9223372036854775807) (w : World) (hr : Recs w 2 A n P) (hs : Recs w 2 B m L) :
    Calls Try.prog 30 #[.agg #[.slice A n c, .slice B m d]] w fun e w' => e = .returned (.int .i64 (mostA n P m L (facesV n P m L).length)) ∧ Ext w w' := by
  have HFO : Hid (∀ W, Ext w W → Calls Try.prog 42 #[.agg #[.slice A n c, .slice B m d]] W (PostF W (facesV n P m L))) := Lib.hid (fun W Z => spec_FacesOf A n c P B m d L hnc hcm hmd hdm W (hr.ext Z) (hs.ext Z))
  have HAR := Lib.hid (fun k (hk : k < (facesV n P m L).length) (B2 : Option Addr) (c2 : Nat) (h1 : ((facesV n P m L).getD k []).length ≤ c2) (h2 : c2 ≤ 9223372036854775807) W (Z : Ext w W) (hrow : Recs W 1 B2 ((facesV n P m L).getD k []).length (fun i _ => ((((facesV n P m L).getD k []).getD i 0 : Nat) : Int))) => (show Calls Try.prog 43 #[.agg #[.slice A n c, .slice B m d], .slice B2 ((facesV n P m L).getD k []).length c2] W fun e w' => e = .returned (.int .i64 (faceA n P m L k)) ∧ Ext W w' from spec_l06Area A n c P B m d L hnc hcm hmd hdm ((facesV n P m L).getD k []) B2 c2 h1 h2 (faces_row hk).1 (faces_row hk).2.2.1 (faces_row hk).2.2.2 W (hr.ext Z) (hs.ext Z) hrow))
  have HBX := Lib.hid (fun k (hk : k < (facesV n P m L).length) => faceA_box hk)
  have HMR := Lib.hid (fun t (ht : t ≤ (facesV n P m L).length) => mostA_rng (n := n) (m := m) (P := P) (L := L) t ht)
  have HMS := Lib.hid (fun t => show mostA n P m L (t + 1) = max (mostA n P m L t) (faceA n P m L t) from rfl)
  have HM0 := Lib.hid (show mostA n P m L 0 = 0 from rfl)
  have hlen := faces_len (n := n) (m := m) (P := P) (L := L)
  have q0 : (w.alloc (.cells #[.slice A n c, .slice B m d] 31)).cell? ⟨w.heap.size, 0, none⟩ = some (.slice A n c) := by simp [go_sem]
  have q1 : (w.alloc (.cells #[.slice A n c, .slice B m d] 31)).cell? ⟨w.heap.size, 1, none⟩ = some (.slice B m d) := by simp [go_sem]
  clear hr hs
  generalize facesV n P m L = R at *
  generalize faceA n P m L = fa at *
  generalize mostA n P m L = mo at *
  go_enter Try.func30, Try.ntmps30
  go_wp2_with fail
  refine (HFO.out _ (by repeat (first | exact Ext.refl _ | apply Ext.alloc))).mono ?_
  rintro e w2 ⟨AF, cF, rfl, iF, jF, hF, x2⟩
  replace q0 := x2.cell q0
  replace q1 := x2.cell q1
  have X2 : Ext w w2 := Ext.trans (by repeat (first | exact Ext.refl _ | apply Ext.alloc)) x2
  have Q0 := Lib.hid q0
  have Q1 := Lib.hid q1
  have HF := Lib.hid hF
  clear q0 q1 x2 hF HFO
  go_wp2
  go_loopw [4, 5] (fun s i wr => ∃ t : Nat, t ≤ R.length ∧ s = .int .i64 (mo t) ∧ i = .int .i64 t ∧ Ext w2 wr) (fun _ i _ => R.length - (intOf i).toNat)
  case atStart => exact ⟨0, Nat.zero_le _, by rw [HM0.out], rfl, Ext.refl _⟩
  case round =>
    obtain ⟨t, ht, rfl, rfl, X⟩ := hrel
    have q0 := X.cell Q0.out
    have q1 := X.cell Q1.out
    have XW := X2.trans X
    have hmr := HMR.out t ht
    by_cases hlt : t < R.length
    · obtain ⟨b', o', Bk, ck, rfl, hb', hck, i1, i2, hrow⟩ := HF.out.at_ hlt
      replace hck := X.cell hck
      have hbx := HBX.out t hlt
      have HAk := Lib.hid (fun W (Z : Ext wr W) => HAR.out t hlt Bk ck i1 i2 W (XW.trans Z) (hrow.ext (X.trans Z)))
      have HS := Lib.hid (HMS.out t)
      have k1 : (0 : Int) ≤ (t : Int) := by omega
      have k2 : (t : Int) < (R.length : Int) := by omega
      have hl0 : (0 : Int) ≤ ((R.getD t []).length : Int) := by omega
      clear hrow
      generalize fa t = a at *
      generalize R.getD t [] = r at *
      generalize mo t = m0 at *
      by_cases ha : a < m0
      · have HS2 := Lib.hid (show mo (t + 1) = m0 by rw [HS.out]; omega)
        go_wp2
        first | refine wp_region_gr2 (by kernel_rfl) (by kernel_rfl) ?_ | refine wp_region_gr (by kernel_rfl) (by kernel_rfl) ?_
        repeat (go_big_quiet_step ((go_at_call 43; exact gr_of (HAk.out _ (by repeat (first | exact Ext.refl _ | apply Ext.wgr | apply Ext.drew | apply Ext.drewN | apply Ext.alloc))))))
        refine wpQuiet_nil ?_
        intro _ hw'
        obtain ⟨gq, hw''⟩ := hw'
        subst hw''
        have X5 := X.wgr gq
        go_wp2
        go_roundw
        case rel => exact ⟨t + 1, by omega, by rw [HS2.out], by go_num, X5⟩
        case measure => simp [intOf]; omega
      · have HS2 := Lib.hid (show mo (t + 1) = a by rw [HS.out]; omega)
        go_wp2
        first | refine wp_region_gr2 (by kernel_rfl) (by kernel_rfl) ?_ | refine wp_region_gr (by kernel_rfl) (by kernel_rfl) ?_
        repeat (go_big_quiet_step ((go_at_call 43; exact gr_of (HAk.out _ (by repeat (first | exact Ext.refl _ | apply Ext.wgr | apply Ext.drew | apply Ext.drewN | apply Ext.alloc))))))
        refine wpQuiet_nil ?_
        intro _ hw'
        obtain ⟨gq, hw''⟩ := hw'
        subst hw''
        have X5 := X.wgr gq
        go_wp2
        all_goals
          go_roundw
          case rel => exact ⟨t + 1, by omega, by rw [HS2.out]; first | rfl | (congr 1; omega), by go_num, X5⟩
          case measure => simp [intOf]; omega
    · obtain rfl : t = R.length := by omega
      go_wp2
      go_ret
      exact ⟨rfl, XW⟩

set_option maxRecDepth 100000 in
set_option maxHeartbeats 8000000 in
theorem spec_GreatestWind (A : Option Addr) (n c : Nat) (P : Nat → Nat → Int) (B : Option Addr) (m d : Nat) (L : Nat → Nat → Int) (hnc : n ≤ c) (hcm : c ≤ 9223372036854775807) (hmd : m ≤ d) (hdm : d ≤ 9223372036854775807) (t : Int) (ht : (-9223372036854775808 ≤ t ∧ t ≤ 9223372036854775807)) (w : World) (hr : Recs w 2 A n P) (hs : Recs w 2 B m L) :
    Calls Try.prog 9 #[.agg #[.slice A n c, .slice B m d], .int .i64 t] w fun e w' => e = .returned (.int .i64 (greatV n P m L t)) ∧ Ext w w' := by
  have HIsWhole : Hid (∀ W, Ext w W → Calls Try.prog 28 #[.agg #[.slice A n c, .slice B m d]] W fun e w' => e = .returned (.bool (wholeB n P m L)) ∧ Ext W w') := Lib.hid (fun W Z => spec_IsWhole A n c P B m d L hnc hcm hmd hdm W (hr.ext Z) (hs.ext Z))
  have HI := Lib.hid (fun W => l01In_any t 1 20 W)
  have HV := Lib.hid (show greatV n P m L t = if (wholeB n P m L && inB t 1 20) = true then bestA (500 * t * t) n P m L (facesV n P m L).length else -1 from rfl)
  have Hl28Greatest : Hid (∀ W, Ext w W → Calls Try.prog 30 #[.agg #[.slice A n c, .slice B m d]] W fun e w' => e = .returned (.int .i64 (mostA n P m L (facesV n P m L).length)) ∧ Ext W w') := Lib.hid (fun W Z => spec_l28Greatest A n c P B m d L hnc hcm hmd hdm W (hr.ext Z) (hs.ext Z))
  have hlen := faces_len (n := n) (m := m) (P := P) (L := L)
  have q0 : (w.alloc (.cells #[.slice A n c, .slice B m d] 31)).cell? ⟨w.heap.size, 0, none⟩ = some (.slice A n c) := by simp [go_sem]
  have q1 : (w.alloc (.cells #[.slice A n c, .slice B m d] 31)).cell? ⟨w.heap.size, 1, none⟩ = some (.slice B m d) := by simp [go_sem]
  cases hw : wholeB n P m L
  · rw [hw] at HIsWhole HV
    have HR := Lib.hid (show greatV n P m L t = -1 by rw [HV.out]; rfl)
    clear hw
    go_enter Try.func9, Try.ntmps9
    go_wp2_with fail
    refine (HIsWhole.out _ (by repeat (first | exact Ext.refl _ | apply Ext.alloc))).mono ?_
    rintro e w1 ⟨rfl, x1⟩
    replace q0 := x1.cell q0
    replace q1 := x1.cell q1
    have X1 : Ext w w1 := Ext.trans (by repeat (first | exact Ext.refl _ | apply Ext.alloc)) x1
    go_wp2
    go_ret
    exact ⟨ret_i HR.out.symm, X1⟩
  · rw [hw] at HIsWhole HV
    cases hin : inB t 1 20
    · rw [hin] at HI HV
      have HR := Lib.hid (show greatV n P m L t = -1 by rw [HV.out]; rfl)
      clear hin hw
      go_enter Try.func9, Try.ntmps9
      go_wp2_with fail
      refine (HIsWhole.out _ (by repeat (first | exact Ext.refl _ | apply Ext.alloc))).mono ?_
      rintro e w1 ⟨rfl, x1⟩
      replace q0 := x1.cell q0
      replace q1 := x1.cell q1
      have X1 : Ext w w1 := Ext.trans (by repeat (first | exact Ext.refl _ | apply Ext.alloc)) x1
      go_wp2_with fail
      refine (HI.out _).mono ?_
      rintro e w2 ⟨rfl, x2⟩
      replace q0 := x2.cell q0
      replace q1 := x2.cell q1
      have X2 : Ext w w2 := Ext.trans X1 x2
      go_wp2
      go_ret
      exact ⟨ret_i HR.out.symm, X2⟩
    · rw [hin] at HI HV
      have hb := inB_of hin
      have hsq := sq_rng hb.1 hb.2
      obtain ⟨ko, hko, ho, hon, hki⟩ := wall_only hw
      clear hin
      have hmr := mostA_rng (n := n) (m := m) (P := P) (L := L) _ (Nat.le_refl _)
      have HV2 := Lib.hid (show greatV n P m L t = if mostA n P m L (facesV n P m L).length = 0 then 1000 else min 1000 (500 * t * t / mostA n P m L (facesV n P m L).length) by rw [HV.out]; rfl)
      have hC0 := hsq.1
      have f1 : -9223372036854775808 ≤ 500 * t ∧ 500 * t ≤ 9223372036854775807 := by omega
      clear hki ho hw HV hon hko
      generalize mostA n P m L (facesV n P m L).length = mo at *
      generalize hy1 : 500 * t = y1 at *
      generalize hyC : y1 * t = C at *
      by_cases h0 : mo = 0
      · have HR := Lib.hid (show greatV n P m L t = 1000 by rw [HV2.out, if_pos h0])
        have d0 : (mo == 0) = true := by simp [h0]
        clear h0
        go_enter Try.func9, Try.ntmps9
        go_wp2_with fail
        refine (HIsWhole.out _ (by repeat (first | exact Ext.refl _ | apply Ext.alloc))).mono ?_
        rintro e w1 ⟨rfl, x1⟩
        replace q0 := x1.cell q0
        replace q1 := x1.cell q1
        have X1 : Ext w w1 := Ext.trans (by repeat (first | exact Ext.refl _ | apply Ext.alloc)) x1
        go_wp2_with fail
        refine (HI.out _).mono ?_
        rintro e w2 ⟨rfl, x2⟩
        replace q0 := x2.cell q0
        replace q1 := x2.cell q1
        have X2 : Ext w w2 := Ext.trans X1 x2
        go_wp2_with fail
        refine (Hl28Greatest.out _ X2).mono ?_
        rintro e w3 ⟨rfl, x3⟩
        replace q0 := x3.cell q0
        replace q1 := x3.cell q1
        have X3 : Ext w w3 := Ext.trans X2 x3
        go_wp2
        go_ret
        exact ⟨ret_i HR.out.symm, X3⟩
      · have HR := Lib.hid (show greatV n P m L t = min 1000 (C / mo) by rw [HV2.out, if_neg h0])
        have d0 : (mo == 0) = false := beq_eq_false_iff_ne.2 h0
        have hdv : C.tdiv mo = C / mo := Int.tdiv_eq_ediv_of_nonneg hC0
        have hq0 := Int.ediv_nonneg hC0 hmr.1
        have hqC := Int.ediv_le_self mo hC0
        generalize hq : C / mo = q at *
        have HQ := Lib.hid hq
        clear hq
        by_cases hmin : 1000 < q
        · have HR2 := Lib.hid (show greatV n P m L t = 1000 by rw [HR.out]; omega)
          go_enter Try.func9, Try.ntmps9
          go_wp2_with fail
          refine (HIsWhole.out _ (by repeat (first | exact Ext.refl _ | apply Ext.alloc))).mono ?_
          rintro e w1 ⟨rfl, x1⟩
          replace q0 := x1.cell q0
          replace q1 := x1.cell q1
          have X1 : Ext w w1 := Ext.trans (by repeat (first | exact Ext.refl _ | apply Ext.alloc)) x1
          go_wp2_with fail
          refine (HI.out _).mono ?_
          rintro e w2 ⟨rfl, x2⟩
          replace q0 := x2.cell q0
          replace q1 := x2.cell q1
          have X2 : Ext w w2 := Ext.trans X1 x2
          go_wp2_with fail
          refine (Hl28Greatest.out _ X2).mono ?_
          rintro e w3 ⟨rfl, x3⟩
          replace q0 := x3.cell q0
          replace q1 := x3.cell q1
          have X3 : Ext w w3 := Ext.trans X2 x3
          go_wp2
          go_ret
          exact ⟨ret_i HR2.out.symm, X3⟩
        · have HR2 := Lib.hid (show greatV n P m L t = q by rw [HR.out]; omega)
          go_enter Try.func9, Try.ntmps9
          go_wp2_with fail
          refine (HIsWhole.out _ (by repeat (first | exact Ext.refl _ | apply Ext.alloc))).mono ?_
          rintro e w1 ⟨rfl, x1⟩
          replace q0 := x1.cell q0
          replace q1 := x1.cell q1
          have X1 : Ext w w1 := Ext.trans (by repeat (first | exact Ext.refl _ | apply Ext.alloc)) x1
          go_wp2_with fail
          refine (HI.out _).mono ?_
          rintro e w2 ⟨rfl, x2⟩
          replace q0 := x2.cell q0
          replace q1 := x2.cell q1
          have X2 : Ext w w2 := Ext.trans X1 x2
          go_wp2_with fail
          refine (Hl28Greatest.out _ X2).mono ?_
          rintro e w3 ⟨rfl, x3⟩
          replace q0 := x3.cell q0
          replace q1 := x3.cell q1
          have X3 : Ext w w3 := Ext.trans X2 x3
          go_wp2
          all_goals
            go_ret
            exact ⟨ret_i (by first | exact HR2.out.symm | (rw [HR2.out]; omega)), X3⟩

end Go.Proofs.Ytdnddmeoncekiaa
