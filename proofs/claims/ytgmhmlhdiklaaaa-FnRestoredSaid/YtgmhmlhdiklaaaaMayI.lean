/-
  May a face be replaced? The program's side. No conditions.
-/
import Derived.Test.YtgmhmlhdiklaaaaSixM
import Derived.Test.YtgmhmlhdiklaaaaSmaM
namespace Go.Proofs.Ytgmhmlhdiklaaaa
open Go.RowKit Ring
set_option linter.unusedVariables false

set_option maxRecDepth 100000 in
set_option maxHeartbeats 8000000 in
theorem impl_MayReplace (A : Option Addr) (n c : Nat) (P : Nat → Nat → Int) (B : Option Addr) (m d : Nat) (L : Nat → Nat → Int) (hnc : n ≤ c) (hcm : c ≤ 9223372036854775807) (hmd : m ≤ d) (hdm : d ≤ 9223372036854775807) (Ah : Option Addr) (nh ch : Nat) (fh : Nat → Nat → Int) (ih : nh ≤ ch) (jh : ch ≤ 9223372036854775807) (f s : Int) (hf : (-9223372036854775808 ≤ f ∧ f ≤ 9223372036854775807)) (hsh : (-9223372036854775808 ≤ s ∧ s ≤ 9223372036854775807)) (w : World) (hr : Recs w 2 A n P) (hs : Recs w 2 B m L) (rh : Recs w 1 Ah nh fh) :
    Calls Try.prog 44 #[.agg #[.slice A n c, .slice B m d], .slice Ah nh ch, .int .i64 f, .int .i64 s] w fun e w' => e = .returned (.bool (mayB n P m L nh fh f s)) ∧ Ext w w' := by
  have HH := Lib.hid (fun W (Z : Ext w W) => impl_HistoryOk A n c P B m d L hnc hcm hmd hdm Ah nh ch fh ih jh W (hr.ext Z) (hs.ext Z) (rh.ext Z))
  have HOA := Lib.hid (fun W (Z : Ext w W) => impl_OriginalArea A n c P B m d L hnc hcm hmd hdm Ah nh ch fh ih jh W (hr.ext Z) (hs.ext Z) (rh.ext Z))
  have HOuterFace : Hid (∀ W, Ext w W → Calls Try.prog 65 #[.agg #[.slice A n c, .slice B m d]] W fun e w' => e = .returned (.int .i64 (outerV n P m L)) ∧ Ext W w') := Lib.hid (fun W Z => impl_OuterFace A n c P B m d L hnc hcm hmd hdm W (hr.ext Z) (hs.ext Z))
  have HTotalArea : Hid (∀ W, Ext w W → Calls Try.prog 68 #[.agg #[.slice A n c, .slice B m d]] W fun e w' => e = .returned (.int .i64 (totalV n P m L)) ∧ Ext W w') := Lib.hid (fun W Z => impl_TotalArea A n c P B m d L hnc hcm hmd hdm W (hr.ext Z) (hs.ext Z))
  have HAreaOf : Hid (∀ W, Ext w W → Calls Try.prog 58 #[.agg #[.slice A n c, .slice B m d], .int .i64 f] W fun e w' => e = .returned (.int .i64 (areaV n P m L f)) ∧ Ext W w') := Lib.hid (fun W Z => impl_AreaOf A n c P B m d L hnc hcm hmd hdm f hf W (hr.ext Z) (hs.ext Z))
  have HIF := Lib.hid (fun W => within_any f 0 ((nh : Int) - 1) W)
  have HIS := Lib.hid (fun W => within_any s 0 100 W)
  have hor := origV_rng (n := n) (m := m) (P := P) (L := L) nh fh
  have har := areaV_rng (n := n) (m := m) (P := P) (L := L) f
  have htr := totalV_rng (n := n) (m := m) (P := P) (L := L)
  have HV := Lib.hid (show mayB n P m L nh fh f s = (histB n P m L nh fh && inB f 0 ((nh : Int) - 1) && !decide (f = outerV n P m L) && inB s 0 100 && (!decide (fh f.toNat 0 = 0) || decide (s * totalV n P m L ≤ 100 * (origV n P m L nh fh - areaV n P m L f)))) from rfl)
  have q0 : (w.alloc (.cells #[.slice A n c, .slice B m d] 27)).cell? ⟨w.heap.size, 0, none⟩ = some (.slice A n c) := by simp [go_sem]
  have q1 : (w.alloc (.cells #[.slice A n c, .slice B m d] 27)).cell? ⟨w.heap.size, 1, none⟩ = some (.slice B m d) := by simp [go_sem]
  clear hr hs
  generalize outerV n P m L = o at *
  generalize origV n P m L nh fh = oa at *
  generalize areaV n P m L f = ar at *
  generalize totalV n P m L = tt at *
  cases hh : histB n P m L nh fh
  · rw [hh] at HH HV
    have HR := Lib.hid (show mayB n P m L nh fh f s = false by rw [HV.out]; rfl)
    clear hh
    go_enter Try.func44, Try.ntmps44
    go_wp2_with fail
    refine (HH.out _ (by repeat (first | exact Ext.refl _ | apply Ext.alloc))).mono ?_
    rintro e w1 ⟨rfl, x1⟩
    replace q0 := x1.cell q0
    replace q1 := x1.cell q1
    have X1 : Ext w w1 := Ext.trans (by repeat (first | exact Ext.refl _ | apply Ext.alloc)) x1
    go_wp2
    go_ret
    exact ⟨ret_b HR.out.symm, X1⟩
  · rw [hh] at HH HV
    obtain ⟨hw_, hnl_, hbd⟩ := histB_get hh
    have HBD := Lib.hid hbd
    clear hh hbd hw_ hnl_
    cases hif : inB f 0 ((nh : Int) - 1)
    · rw [hif] at HIF HV
      have HR := Lib.hid (show mayB n P m L nh fh f s = false by rw [HV.out]; rfl)
      clear hif
      go_enter Try.func44, Try.ntmps44
      go_wp2_with fail
      refine (HH.out _ (by repeat (first | exact Ext.refl _ | apply Ext.alloc))).mono ?_
      rintro e w1 ⟨rfl, x1⟩
      replace q0 := x1.cell q0
      replace q1 := x1.cell q1
      have X1 : Ext w w1 := Ext.trans (by repeat (first | exact Ext.refl _ | apply Ext.alloc)) x1
      go_wp2_with fail
      refine (HIF.out _).mono ?_
      rintro e w2 ⟨rfl, x2⟩
      go_wp2
      go_ret
      exact ⟨ret_b HR.out.symm, X1.trans x2⟩
    · rw [hif] at HIF HV
      have hb := inB_of hif
      obtain ⟨k, rfl⟩ : ∃ k : Nat, f = (k : Int) := ⟨f.toNat, by omega⟩
      have hk : k < nh := by omega
      have ek : ((k : Int)).toNat = k := by omega
      rw [ek] at HV
      clear hif ek
      by_cases ho : (k : Int) = o
      · have d1 : ((k : Int) == o) = true := by simp [ho]
        have HR := Lib.hid (show mayB n P m L nh fh (k : Int) s = false by rw [HV.out, decide_eq_true ho]; rfl)
        clear ho
        go_enter Try.func44, Try.ntmps44
        go_wp2_with fail
        refine (HH.out _ (by repeat (first | exact Ext.refl _ | apply Ext.alloc))).mono ?_
        rintro e w1 ⟨rfl, x1⟩
        replace q0 := x1.cell q0
        replace q1 := x1.cell q1
        have X1 : Ext w w1 := Ext.trans (by repeat (first | exact Ext.refl _ | apply Ext.alloc)) x1
        go_wp2_with fail
        refine (HIF.out _).mono ?_
        rintro e w2 ⟨rfl, x2⟩
        have X2 := X1.trans x2
        replace q0 := x2.cell q0
        replace q1 := x2.cell q1
        go_wp2_with fail
        refine (HOuterFace.out _ X2).mono ?_
        rintro e w3 ⟨rfl, x3⟩
        replace q0 := x3.cell q0
        replace q1 := x3.cell q1
        have X3 : Ext w w3 := Ext.trans X2 x3
        go_wp2
        go_ret
        exact ⟨ret_b HR.out.symm, X3⟩
      · have d1 : ((k : Int) == o) = false := by simp [ho]
        rw [decide_eq_false ho] at HV
        clear ho
        cases his : inB s 0 100
        · rw [his] at HIS HV
          have HR := Lib.hid (show mayB n P m L nh fh (k : Int) s = false by rw [HV.out]; rfl)
          clear his
          go_enter Try.func44, Try.ntmps44
          go_wp2_with fail
          refine (HH.out _ (by repeat (first | exact Ext.refl _ | apply Ext.alloc))).mono ?_
          rintro e w1 ⟨rfl, x1⟩
          replace q0 := x1.cell q0
          replace q1 := x1.cell q1
          have X1 : Ext w w1 := Ext.trans (by repeat (first | exact Ext.refl _ | apply Ext.alloc)) x1
          go_wp2_with fail
          refine (HIF.out _).mono ?_
          rintro e w2 ⟨rfl, x2⟩
          have X2 := X1.trans x2
          replace q0 := x2.cell q0
          replace q1 := x2.cell q1
          go_wp2_with fail
          refine (HOuterFace.out _ X2).mono ?_
          rintro e w3 ⟨rfl, x3⟩
          replace q0 := x3.cell q0
          replace q1 := x3.cell q1
          have X3 : Ext w w3 := Ext.trans X2 x3
          go_wp2_with fail
          refine (HIS.out _).mono ?_
          rintro e w4 ⟨rfl, x4⟩
          go_wp2
          go_ret
          exact ⟨ret_b HR.out.symm, X3.trans x4⟩
        · rw [his] at HIS HV
          have hbs := inB_of his
          have hs1 : s * tt ≤ 100 * 16000 := Int.le_trans (Int.mul_le_mul_of_nonneg_left htr.2 hbs.1) (by omega)
          have hs2 : s * (-1) ≤ s * tt := Int.mul_le_mul_of_nonneg_left htr.1 hbs.1
          have HR := Lib.hid (show mayB n P m L nh fh (k : Int) s = (!decide (fh k 0 = 0) || decide (s * tt ≤ 100 * (oa - ar))) by rw [HV.out]; rfl)
          clear his
          generalize hst : s * tt = st at *
          obtain ⟨b, off, rfl, hb_, c0⟩ := rh.at1 hk
          have hbk := HBD.out k hk
          have k1 : (0 : Int) ≤ (k : Int) := by omega
          have k2 : (k : Int) < (nh : Int) := by omega
          generalize hfk : fh k 0 = y at *
          by_cases h0 : y = 0
          · have d2 : (y != 0) = false := by simp [h0]
            have HR2 := Lib.hid (show mayB n P m L nh fh (k : Int) s = decide (st ≤ 100 * (oa - ar)) by rw [HR.out, decide_eq_true h0]; rfl)
            clear h0
            go_enter Try.func44, Try.ntmps44
            go_wp2_with fail
            refine (HH.out _ (by repeat (first | exact Ext.refl _ | apply Ext.alloc))).mono ?_
            rintro e w1 ⟨rfl, x1⟩
            replace q0 := x1.cell q0
            replace q1 := x1.cell q1
            have X1 : Ext w w1 := Ext.trans (by repeat (first | exact Ext.refl _ | apply Ext.alloc)) x1
            go_wp2_with fail
            refine (HIF.out _).mono ?_
            rintro e w2 ⟨rfl, x2⟩
            have X2 := X1.trans x2
            replace q0 := x2.cell q0
            replace q1 := x2.cell q1
            go_wp2_with fail
            refine (HOuterFace.out _ X2).mono ?_
            rintro e w3 ⟨rfl, x3⟩
            replace q0 := x3.cell q0
            replace q1 := x3.cell q1
            have X3 : Ext w w3 := Ext.trans X2 x3
            go_wp2_with fail
            refine (HIS.out _).mono ?_
            rintro e w4 ⟨rfl, x4⟩
            have X4 := X3.trans x4
            replace q0 := x4.cell q0
            replace q1 := x4.cell q1
            replace c0 := X4.cell c0
            go_wp2
            first | refine wp_region_gr2 (by kernel_rfl) (by kernel_rfl) ?_ | refine wp_region_gr (by kernel_rfl) (by kernel_rfl) ?_
            repeat (go_big_quiet_step (first | (go_at_call 42; exact gr_of (HOA.out _ (X4.trans (by repeat (first | exact Ext.refl _ | apply Ext.wgr | apply Ext.drew | apply Ext.drewN | apply Ext.alloc))))) | (go_at_call 58; exact gr_of (HAreaOf.out _ (X4.trans (by repeat (first | exact Ext.refl _ | apply Ext.wgr | apply Ext.drew | apply Ext.drewN | apply Ext.alloc))))) | (go_at_call 68; exact gr_of (HTotalArea.out _ (X4.trans (by repeat (first | exact Ext.refl _ | apply Ext.wgr | apply Ext.drew | apply Ext.drewN | apply Ext.alloc)))))))
            refine wpQuiet_nil ?_
            intro _ hw'
            obtain ⟨gq, hw''⟩ := hw'
            subst hw''
            have X5 := X4.wgr gq
            go_wp2
            all_goals
              go_ret
              exact ⟨ret_b (by first | (rw [HR2.out]; done) | (rw [HR2.out]; simp; done) | (rw [HR2.out]; simp; omega)), X5⟩
          · have d2 : (y != 0) = true := by simp [h0]
            have HR2 := Lib.hid (show mayB n P m L nh fh (k : Int) s = true by rw [HR.out, decide_eq_false h0]; rfl)
            clear h0
            go_enter Try.func44, Try.ntmps44
            go_wp2_with fail
            refine (HH.out _ (by repeat (first | exact Ext.refl _ | apply Ext.alloc))).mono ?_
            rintro e w1 ⟨rfl, x1⟩
            replace q0 := x1.cell q0
            replace q1 := x1.cell q1
            have X1 : Ext w w1 := Ext.trans (by repeat (first | exact Ext.refl _ | apply Ext.alloc)) x1
            go_wp2_with fail
            refine (HIF.out _).mono ?_
            rintro e w2 ⟨rfl, x2⟩
            have X2 := X1.trans x2
            replace q0 := x2.cell q0
            replace q1 := x2.cell q1
            go_wp2_with fail
            refine (HOuterFace.out _ X2).mono ?_
            rintro e w3 ⟨rfl, x3⟩
            replace q0 := x3.cell q0
            replace q1 := x3.cell q1
            have X3 : Ext w w3 := Ext.trans X2 x3
            go_wp2_with fail
            refine (HIS.out _).mono ?_
            rintro e w4 ⟨rfl, x4⟩
            have X4 := X3.trans x4
            replace q0 := x4.cell q0
            replace q1 := x4.cell q1
            replace c0 := X4.cell c0
            go_wp2
            first | refine wp_region_gr2 (by kernel_rfl) (by kernel_rfl) ?_ | refine wp_region_gr (by kernel_rfl) (by kernel_rfl) ?_
            repeat (go_big_quiet_step (fail))
            refine wpQuiet_nil ?_
            intro _ hw'
            obtain ⟨gq, hw''⟩ := hw'
            subst hw''
            have X5 := X4.wgr gq
            go_wp2
            go_ret
            exact ⟨ret_b HR2.out.symm, X5⟩

end Go.Proofs.Ytgmhmlhdiklaaaa
