/-
  The law FnWinds of the given program holds: for every input the Go function returns true and each argument reads afterwards as it read before. No conditions.
-/
import Derived.Test.YtgmhmlhdiklaaaaRows
import Derived.Test.YtgmhmlhdiklaaaaFacts
import Derived.Test.YtgmhmlhdiklaaaaWndL
import Derived.Test.YtgmhmlhdiklaaaaWdI
import Derived.Test.YtgmhmlhdiklaaaaSmaM
import Derived.Test.YtgmhmlhdiklaaaaSixI
import Derived.Test.YtgmhmlhdiklaaaaWeakI
import Derived.Test.YtgmhmlhdiklaaaaAreM
import Derived.Test.YtgmhmlhdiklaaaaFacM
import Derived.Test.YtgmhmlhdiklaaaaHasL
namespace Go.Proofs.Ytgmhmlhdiklaaaa.fnWinds
open Go.ChangeShapes Go.WideShapes Go.ChangeAt Go.RowKit
set_option linter.unusedVariables false

set_option maxHeartbeats 16000000 in
set_option maxRecDepth 100000 in
theorem walk (A : Option Addr) (n c : Nat) (f : Nat → Int) (hnc : n ≤ c) (hcm : c ≤ 9223372036854775807) (w : World) (hr : BRecs w A n f) :
    Calls Try.prog 5 #[.slice A n c] w fun e w' => e = .returned (.bool true) ∧ Ext w w' := by
  by_cases hbig : 1048576 < n
  · have hd : decide (1048576 < n) = true := by simpa using hbig
    go_enter Try.func5, Try.ntmps5
    go_wp2_with fail
    refine (big_any A n c (by omega) w).mono ?_
    rintro e w1 ⟨rfl, x1⟩
    go_wp2
    go_ret
    exact ⟨rfl, x1⟩
  · have hd : decide (1048576 < n) = false := by simpa using hbig
    have hn20 : n ≤ 1048576 := by omega
    go_enter Try.func5, Try.ntmps5
    go_wp2_with fail
    refine (big_any A n c (by omega) w).mono ?_
    rintro e w1 ⟨rfl, x1⟩
    clear hd hbig
    go_wp2_with fail
    refine (DrawWhole_any A n c f hnc hcm hn20 _ (hr.ext x1)).mono ?_
    rintro e w2 ⟨A1, n1, c1, zs, B1, m1, d1, ys, rfl, ho, hw, x2⟩
    have hwin := (wholeB_get hw).1
    obtain ⟨hsz, hNo, _⟩ := winB_get hwin
    obtain ⟨gP, rfl⟩ := ho.2.2.2.2.1.some_ (by omega)
    have hi1 := ho.1
    have hi2 := ho.2.1
    have hi3 := ho.2.2.1
    have hi4 := ho.2.2.2.1
    have X := x1.trans x2
    have hB := hr.ext X
    have hP := ho.recsP
    have hL := ho.recsL
    generalize FW zs = P at *
    generalize FW ys = L at *
    clear ho hr x1 x2
    have x3 : Ext w2 (w2.alloc (.cells #[.slice (some ⟨gP, 0, none⟩) n1 c1, .slice B1 m1 d1] 27)) := (Ext.refl _).alloc _
    have k0 : (w2.alloc (.cells #[.slice (some ⟨gP, 0, none⟩) n1 c1, .slice B1 m1 d1] 27)).cell? ⟨w2.heap.size, 0, none⟩ = some (.slice (some ⟨gP, 0, none⟩) n1 c1) := by simp [go_sem]
    have k1 : (w2.alloc (.cells #[.slice (some ⟨gP, 0, none⟩) n1 c1, .slice B1 m1 d1] 27)).cell? ⟨w2.heap.size, 1, none⟩ = some (.slice B1 m1 d1) := by simp [go_sem]
    replace X := X.trans x3
    replace hB := hB.ext x3
    replace hP := hP.ext x3
    replace hL := hL.ext x3
    clear x3
    go_wp2_with fail
    generalize w2.alloc (.cells #[.slice (some ⟨gP, 0, none⟩) n1 c1, .slice B1 m1 d1] 27) = w3 at *
    generalize w2.heap.size = t at *
    obtain ⟨ko, hko, oko, hneg, _⟩ := wall_only hw
    have hFL := faces_len (n := n1) (m := m1) (P := P) (L := L)
    have HFS := Lib.hid (fun W (hP : Recs W 2 (some ⟨gP, 0, none⟩) n1 P) (hL : Recs W 2 B1 m1 L) => spec_FacesOf (some ⟨gP, 0, none⟩) n1 c1 P B1 m1 d1 L hi1 hi2 hi3 hi4 W hP hL)
    have HAT := Lib.hid (fun (i : Int) (h0 : 0 ≤ i) (h1 : i ≤ 100) W (hB : BRecs W A n f) => at_any A n c f i hn20 h0 (by omega) W hB)
    have HW := Lib.hid hw
    have HLT := Lib.hid (fun f p (hf : 0 ≤ f ∧ f ≤ 1000) (hp : 0 ≤ p ∧ p ≤ 1000) W (hP : Recs W 2 (some ⟨gP, 0, none⟩) n1 P) (hL : Recs W 2 B1 m1 L) => impl_LeastThickness (some ⟨gP, 0, none⟩) n1 c1 P B1 m1 d1 L hi1 hi2 hi3 hi4 f p (by omega) (by omega) W hP hL)
    have HBL := Lib.hid (fun f p th (hf : 0 ≤ f ∧ f ≤ 1000) (hp : 0 ≤ p ∧ p ≤ 1000) (ht : -1 ≤ th ∧ th ≤ 1000) W (hP : Recs W 2 (some ⟨gP, 0, none⟩) n1 P) (hL : Recs W 2 B1 m1 L) => impl_BearsLoad (some ⟨gP, 0, none⟩) n1 c1 P B1 m1 d1 L hi1 hi2 hi3 hi4 f p th (by omega) (by omega) (by omega) W hP hL)
    have HLO := Lib.hid (fun f p (hf : 0 ≤ f ∧ f ≤ 1000) (hp : 0 ≤ p ∧ p ≤ 1000) W (hP : Recs W 2 (some ⟨gP, 0, none⟩) n1 P) (hL : Recs W 2 B1 m1 L) => impl_LoadOn (some ⟨gP, 0, none⟩) n1 c1 P B1 m1 d1 L hi1 hi2 hi3 hi4 f p (by omega) (by omega) W hP hL)
    have HAR := Lib.hid (fun f (hf : 0 ≤ f ∧ f ≤ 1000) W (hP : Recs W 2 (some ⟨gP, 0, none⟩) n1 P) (hL : Recs W 2 B1 m1 L) => spec_AreaOf (some ⟨gP, 0, none⟩) n1 c1 P B1 m1 d1 L hi1 hi2 hi3 hi4 f (by omega) W hP hL)
    have HGW := Lib.hid (fun th (ht : -1 ≤ th ∧ th ≤ 1000) W (hP : Recs W 2 (some ⟨gP, 0, none⟩) n1 P) (hL : Recs W 2 B1 m1 L) => impl_GreatestWind (some ⟨gP, 0, none⟩) n1 c1 P B1 m1 d1 L hi1 hi2 hi3 hi4 th (by omega) W hP hL)
    have HWF := Lib.hid (fun p th (hp : 0 ≤ p ∧ p ≤ 1001) (ht : -1 ≤ th ∧ th ≤ 1000) W (hP : Recs W 2 (some ⟨gP, 0, none⟩) n1 P) (hL : Recs W 2 B1 m1 L) => impl_WeakFaces (some ⟨gP, 0, none⟩) n1 c1 P B1 m1 d1 L hi1 hi2 hi3 hi4 p th (by omega) (by omega) W hP hL)
    have HOF := Lib.hid (fun W (hP : Recs W 2 (some ⟨gP, 0, none⟩) n1 P) (hL : Recs W 2 B1 m1 L) => spec_OuterFace (some ⟨gP, 0, none⟩) n1 c1 P B1 m1 d1 L hi1 hi2 hi3 hi4 W hP hL)
    have HWL := Lib.hid (fun p t hp ht => wind_law hw (p := p) (t := t) hp ht)
    have HLL := Lib.hid (fun f (hf : f < (facesV n1 P m1 L).length) p hp => load_law hf (p := p) hp)
    clear hw hneg HW
    refine (HFS.out _ hP hL).mono ?_
    rintro e w4 ⟨Af, cf, rfl, _, _, _, x4⟩
    replace hP := hP.ext x4
    replace hL := hL.ext x4
    replace hB := hB.ext x4
    replace k0 := x4.cell k0
    replace k1 := x4.cell k1
    replace X := X.trans x4
    clear x4 HFS
    generalize (facesV n1 P m1 L).length = NF at *
    have hNZ : ¬ (NF : Int) = 0 := by omega
    go_wp2_with fail
    refine (HAT.out 0 (by omega) (by omega) _ hB).mono ?_
    rintro e w5 ⟨z0, rfl, hz00, hz01, x5⟩
    replace hP := hP.ext x5
    replace hL := hL.ext x5
    replace hB := hB.ext x5
    replace k0 := x5.cell k0
    replace k1 := x5.cell k1
    replace X := X.trans x5
    clear x5
    have hf0 : 0 ≤ z0 % (NF : Int) := Int.emod_nonneg _ hNZ
    have hf1 : z0 % (NF : Int) < NF := Int.emod_lt_of_pos _ (by omega)
    go_wp2_with fail
    generalize z0 % (NF : Int) = fi at *
    obtain ⟨fk, rfl⟩ : ∃ fk : Nat, fi = fk := ⟨fi.toNat, by omega⟩
    have hfk : fk < NF := by omega
    clear hf0 hf1 hz00 hz01
    refine (HAT.out 1 (by omega) (by omega) _ hB).mono ?_
    rintro e w6 ⟨z1, rfl, hz10, hz11, x6⟩
    replace hP := hP.ext x6
    replace hL := hL.ext x6
    replace hB := hB.ext x6
    replace k0 := x6.cell k0
    replace k1 := x6.cell k1
    replace X := X.trans x6
    clear x6
    go_wp2_with fail
    have hp0 : 0 ≤ z1 * 2 := by omega
    have hp1 : z1 * 2 ≤ 510 := by omega
    generalize z1 * 2 = p at *
    clear hz10 hz11
    obtain ⟨hl1, hl2, hl3, hl4⟩ := HLL.out fk hfk p (by omega)
    have hll := least_law (loadV n1 P m1 L fk p)
    refine (HLT.out fk p (by omega) (by omega) _ hP hL).mono ?_
    rintro e w7 ⟨rfl, x7⟩
    replace hP := hP.ext x7
    replace hL := hL.ext x7
    replace hB := hB.ext x7
    replace k0 := x7.cell k0
    replace k1 := x7.cell k1
    replace X := X.trans x7
    clear x7
    have HBQ := Lib.hid (fun th (ht : -1 ≤ th ∧ th ≤ 1000) W hP hL => HBL.out (fk : Int) p th (by omega) (by omega) ht W hP hL)
    have HLQ := Lib.hid (HLO.out (fk : Int) p (by omega) (by omega))
    have HAQ := Lib.hid (HAR.out (fk : Int) (by omega))
    generalize leastV (loadV n1 P m1 L fk p) = tl at *
    generalize loadV n1 P m1 L (fk : Int) p = lv at *
    generalize areaV n1 P m1 L (fk : Int) = ar at *
    have hcmp : (lv != p * ar) = false := by rw [hl1]; simp
    have HL1 := Lib.hid hl1
    clear hl1
    obtain ⟨q1, q2, q3, q4, q5, q6⟩ := hll
    have HQ4 := Lib.hid q4
    have HQ5 := Lib.hid q5
    have HQ6 := Lib.hid q6
    clear q4 q5 q6
    go_upto_region 8 with fail
    go_cut [81] from 30 to 80 (fun s81 wx => s81 = .bool false ∧ Ext w7 wx)
    case first =>
      have hlf : ¬ 20 < tl := by omega
      have hw2 : IntKind.i64.wrap (p * ar) = p * ar := IntWalk.i64_in _ (by omega)
      have hdf : decide (20 < tl) = false := decide_eq_false hlf
      have q1b : (tl == 0) = false := beq_eq_false_iff_ne.2 q1
      by_cases cA : 0 < tl
      · have b1 := HQ4.out cA
        have cC : ¬ tl < 0 := by omega
        have hdA : decide (0 < tl) = true := decide_eq_true cA
        have hdC : decide (tl < 0) = false := decide_eq_false cC
        by_cases cB : 1 < tl
        · have b2 := HQ5.out cB
          have hdB : decide (1 < tl) = true := decide_eq_true cB
          have hw1 : IntKind.i64.wrap (tl - 1) = tl - 1 := IntWalk.i64_in _ (by omega)
          first | refine wp_region_gr2 (by kernel_rfl) (by kernel_rfl) ?_ | refine wp_region_gr (by kernel_rfl) (by kernel_rfl) ?_
          repeat (go_big_quiet_step ((first | (go_at_call 28; exact gr_of (HBQ.out _ (by omega) _ (hP.ext (Ext.gr _ _)) (hL.ext (Ext.gr _ _)))) | (go_at_call 29; exact gr_of (HLQ.out _ (hP.ext (Ext.gr _ _)) (hL.ext (Ext.gr _ _)))) | (go_at_call 24; exact gr_of (HAQ.out _ (hP.ext (Ext.gr _ _)) (hL.ext (Ext.gr _ _)))))))
          refine wpQuiet_nil ?_
          intro _ hw'
          obtain ⟨gq, hw''⟩ := hw'
          subst hw''
          go_wp2_with fail
          go_meet
          exact ⟨rfl, Ext.gr _ _⟩
        · obtain rfl : tl = 1 := by omega
          clear HQ5
          first | refine wp_region_gr2 (by kernel_rfl) (by kernel_rfl) ?_ | refine wp_region_gr (by kernel_rfl) (by kernel_rfl) ?_
          repeat (go_big_quiet_step ((first | (go_at_call 28; exact gr_of (HBQ.out _ (by omega) _ (hP.ext (Ext.gr _ _)) (hL.ext (Ext.gr _ _)))) | (go_at_call 29; exact gr_of (HLQ.out _ (hP.ext (Ext.gr _ _)) (hL.ext (Ext.gr _ _)))) | (go_at_call 24; exact gr_of (HAQ.out _ (hP.ext (Ext.gr _ _)) (hL.ext (Ext.gr _ _)))))))
          refine wpQuiet_nil ?_
          intro _ hw'
          obtain ⟨gq, hw''⟩ := hw'
          subst hw''
          go_wp2_with fail
          go_meet
          exact ⟨rfl, Ext.gr _ _⟩
      · have cC : tl < 0 := by omega
        have cB : ¬ 1 < tl := by omega
        have b1 := HQ6.out cC
        obtain rfl : tl = -1 := by omega
        first | refine wp_region_gr2 (by kernel_rfl) (by kernel_rfl) ?_ | refine wp_region_gr (by kernel_rfl) (by kernel_rfl) ?_
        repeat (go_big_quiet_step ((first | (go_at_call 28; exact gr_of (HBQ.out _ (by omega) _ (hP.ext (Ext.gr _ _)) (hL.ext (Ext.gr _ _)))) | (go_at_call 29; exact gr_of (HLQ.out _ (hP.ext (Ext.gr _ _)) (hL.ext (Ext.gr _ _)))) | (go_at_call 24; exact gr_of (HAQ.out _ (hP.ext (Ext.gr _ _)) (hL.ext (Ext.gr _ _)))))))
        refine wpQuiet_nil ?_
        intro _ hw'
        obtain ⟨gq, hw''⟩ := hw'
        subst hw''
        go_wp2_with fail
        go_meet
        exact ⟨rfl, Ext.gr _ _⟩
    case rest =>
    obtain ⟨rfl, Xc⟩ := hcut
    replace hP := hP.ext Xc
    replace hL := hL.ext Xc
    replace hB := hB.ext Xc
    replace k0 := Xc.cell k0
    replace k1 := Xc.cell k1
    replace X := X.trans Xc
    clear Xc HQ4 HQ5 HQ6 q1 q2 q3 hl2 hl3 hl4 HLL HBQ HLQ HAQ HL1 hcmp
    go_wp2_with fail
    refine (HAT.out 2 (by omega) (by omega) _ hB).mono ?_
    rintro e w8 ⟨z2, rfl, hz20, hz21, x8⟩
    replace hP := hP.ext x8
    replace hL := hL.ext x8
    replace hB := hB.ext x8
    replace k0 := x8.cell k0
    replace k1 := x8.cell k1
    replace X := X.trans x8
    clear x8
    have hm0 : 0 ≤ z2 % 20 := Int.emod_nonneg _ (by omega)
    have hm1 : z2 % 20 < 20 := Int.emod_lt_of_pos _ (by omega)
    go_wp2_with fail
    have ht0 : 1 ≤ 1 + z2 % 20 := by omega
    have ht1 : 1 + z2 % 20 ≤ 20 := by omega
    generalize 1 + z2 % 20 = th at *
    clear hm0 hm1 hz20 hz21 hB
    obtain ⟨M, oM, hM, hM0, hM1, hMw, hHas⟩ := HWL.out p th (by omega) (by omega)
    have HM0 := Lib.hid hM0
    have HM1 := Lib.hid hM1
    have HMW := Lib.hid hMw
    have HHAS := Lib.hid hHas
    clear hM0 hM1 hMw hHas HWL
    refine (HGW.out th (by omega) _ hP hL).mono ?_
    rintro e w9 ⟨rfl, x9⟩
    replace hP := hP.ext x9
    replace hL := hL.ext x9
    replace k0 := x9.cell k0
    replace k1 := x9.cell k1
    replace X := X.trans x9
    clear x9
    rw [oM]
    clear oM
    go_wp2_with fail
    refine (HWF.out p th (by omega) (by omega) _ hP hL).mono ?_
    rintro e w10 ⟨Aw, cw, rfl, iw, jw, mw, x10⟩
    replace hP := hP.ext x10
    replace hL := hL.ext x10
    replace k0 := x10.cell k0
    replace k1 := x10.cell k1
    replace X := X.trans x10
    clear x10
    have hwk := mw.recs
    clear mw
    generalize weakV n1 P m1 L p th = wk at *
    go_wp2
    go_loopw [11] (fun i wr => ∃ j : Nat, j ≤ NF ∧ i = .int .i64 j ∧ Ext w10 wr) (fun i _ => NF - (intOf i).toNat)
    case atStart => exact ⟨0, Nat.zero_le _, rfl, Ext.refl _⟩
    case round =>
      obtain ⟨j, hj, rfl, Y⟩ := hrel
      have k0j := Y.cell k0
      have k1j := Y.cell k1
      have hPj := hP.ext Y
      have hLj := hL.ext Y
      have hwj := hwk.ext Y
      by_cases hlt : j < NF
      · have HHj := HHAS.out j hlt
        rw [oko] at HHj
        by_cases e : j = ko
        · subst e
          rw [decide_eq_true (rfl : (j : Int) = (j : Int))] at HHj
          have HHA := Lib.hid (fun W (hW : Recs W 1 Aw wk.length fun k _ => ix wk k) => (by have q := has_any Aw wk.length cw _ (j : Int) (by omega) W hW; rw [HHj] at q; exact q : Calls Try.prog 16 #[.slice Aw wk.length cw, .int .i64 (j : Int)] W fun e w' => e = .returned (.bool false) ∧ Ext W w'))
          clear HHj
          go_wp2_with fail
          first | refine wp_region_gr2 (by kernel_rfl) (by kernel_rfl) ?_ | refine wp_region_gr (by kernel_rfl) (by kernel_rfl) ?_
          repeat (go_big_quiet_step ((first | (go_at_call 16; exact gr_of (HHA.out _ (hwj.ext (Ext.gr _ _)))) | (go_at_call 32; exact gr_of (HOF.out _ (hPj.ext (Ext.gr _ _)) (hLj.ext (Ext.gr _ _)))))))
          refine wpQuiet_nil ?_
          intro _ hw'
          obtain ⟨gq, hw''⟩ := hw'
          subst hw''
          have Z := Y.trans (Ext.gr _ gq)
          clear Y k0j k1j HHA
          go_wp2
          go_roundw
          case rel => exact ⟨j + 1, by omega, by go_num, Z⟩
          case measure => simp [intOf]; omega
        · have hne : ((j : Int) == (ko : Int)) = false := beq_eq_false_iff_ne.2 (by omega)
          have hne2 : ¬ (j : Int) = (ko : Int) := by omega
          have hnb : ((j : Int) != (ko : Int)) = true := by rw [bne, hne]; rfl
          rw [decide_eq_false hne2] at HHj
          cases hb : bearB (loadV n1 P m1 L (j : Int) p) th
          · rw [hb] at HHj
            have HHA := Lib.hid (fun W (hW : Recs W 1 Aw wk.length fun k _ => ix wk k) => (by have q := has_any Aw wk.length cw _ (j : Int) (by omega) W hW; rw [HHj] at q; exact q : Calls Try.prog 16 #[.slice Aw wk.length cw, .int .i64 (j : Int)] W fun e w' => e = .returned (.bool true) ∧ Ext W w'))
            have HBJ := Lib.hid (fun W hP hL => (by have q := HBL.out (j : Int) p th (by omega) (by omega) (by omega) W hP hL; rw [hb] at q; exact q : Calls Try.prog 28 #[.agg #[.slice (some ⟨gP, 0, none⟩) n1 c1, .slice B1 m1 d1], .int .i64 (j : Int), .int .i64 p, .int .i64 th] W fun e w' => e = .returned (.bool false) ∧ Ext W w'))
            clear HHj hb
            go_wp2_with fail
            first | refine wp_region_gr2 (by kernel_rfl) (by kernel_rfl) ?_ | refine wp_region_gr (by kernel_rfl) (by kernel_rfl) ?_
            repeat (go_big_quiet_step ((first | (go_at_call 16; exact gr_of (HHA.out _ (hwj.ext (Ext.gr _ _)))) | (go_at_call 32; exact gr_of (HOF.out _ (hPj.ext (Ext.gr _ _)) (hLj.ext (Ext.gr _ _)))) | (go_at_call 28; exact gr_of (HBJ.out _ (hPj.ext (Ext.gr _ _)) (hLj.ext (Ext.gr _ _)))))))
            refine wpQuiet_nil ?_
            intro _ hw'
            obtain ⟨gq, hw''⟩ := hw'
            subst hw''
            have Z := Y.trans (Ext.gr _ gq)
            clear Y k0j k1j HHA
            go_wp2
            go_roundw
            case rel => exact ⟨j + 1, by omega, by go_num, Z⟩
            case measure => simp [intOf]; omega
          · rw [hb] at HHj
            have HHA := Lib.hid (fun W (hW : Recs W 1 Aw wk.length fun k _ => ix wk k) => (by have q := has_any Aw wk.length cw _ (j : Int) (by omega) W hW; rw [HHj] at q; exact q : Calls Try.prog 16 #[.slice Aw wk.length cw, .int .i64 (j : Int)] W fun e w' => e = .returned (.bool false) ∧ Ext W w'))
            have HBJ := Lib.hid (fun W hP hL => (by have q := HBL.out (j : Int) p th (by omega) (by omega) (by omega) W hP hL; rw [hb] at q; exact q : Calls Try.prog 28 #[.agg #[.slice (some ⟨gP, 0, none⟩) n1 c1, .slice B1 m1 d1], .int .i64 (j : Int), .int .i64 p, .int .i64 th] W fun e w' => e = .returned (.bool true) ∧ Ext W w'))
            clear HHj hb
            go_wp2_with fail
            first | refine wp_region_gr2 (by kernel_rfl) (by kernel_rfl) ?_ | refine wp_region_gr (by kernel_rfl) (by kernel_rfl) ?_
            repeat (go_big_quiet_step ((first | (go_at_call 16; exact gr_of (HHA.out _ (hwj.ext (Ext.gr _ _)))) | (go_at_call 32; exact gr_of (HOF.out _ (hPj.ext (Ext.gr _ _)) (hLj.ext (Ext.gr _ _)))) | (go_at_call 28; exact gr_of (HBJ.out _ (hPj.ext (Ext.gr _ _)) (hLj.ext (Ext.gr _ _)))))))
            refine wpQuiet_nil ?_
            intro _ hw'
            obtain ⟨gq, hw''⟩ := hw'
            subst hw''
            have Z := Y.trans (Ext.gr _ gq)
            clear Y k0j k1j HHA
            go_wp2
            go_roundw
            case rel => exact ⟨j + 1, by omega, by go_num, Z⟩
            case measure => simp [intOf]; omega
      · obtain rfl : NF = j := by omega
        clear HHAS hlt hj
        have hMa : ¬ 1000 < M := by omega
        have hMb : 0 ≤ M := hM.1
        have hMc : M ≤ 1000 := hM.2
        go_wp2_with fail
        refine (HWF.out M th (by omega) (by omega) _ hPj hLj).mono ?_
        rintro e w11 ⟨A11, c11, rfl, _, _, _, x11⟩
        rw [HM0.out]
        replace k0j := x11.cell k0j
        replace k1j := x11.cell k1j
        replace hPj := hPj.ext x11
        replace hLj := hLj.ext x11
        replace Y := Y.trans x11
        clear x11
        by_cases hM9 : M = 1000
        · subst hM9
          have hnp : ¬ 1000 < p := by omega
          have hdp : decide (1000 < p) = false := decide_eq_false hnp
          have hz0 : ¬ 0 < wk.length := fun q => hnp (HMW.out.1 q)
          have hz : ¬ (0 : Int) < (wk.length : Int) := by omega
          clear HM1 HMW HM0
          go_wp2
          go_ret
          exact ⟨rfl, X.trans Y⟩
        · have hM8 : (M == 1000) = false := beq_eq_false_iff_ne.2 hM9
          have h1 := HM1.out hM9
          have h2 : (0 : Int) < ((weakV n1 P m1 L (M + 1) th).length : Int) := by omega
          go_wp2_with fail
          refine (HWF.out (M + 1) th (by omega) (by omega) _ hPj hLj).mono ?_
          rintro e w12 ⟨A12, c12, rfl, _, _, _, x12⟩
          replace Y := Y.trans x12
          generalize (weakV n1 P m1 L (M + 1) th).length = l12 at *
          by_cases hMp : M < p
          · have hz0 := HMW.out.2 hMp
            have hz : (0 : Int) < (wk.length : Int) := by omega
            clear HM1 HMW HM0
            go_wp2
            go_ret
            exact ⟨rfl, X.trans Y⟩
          · have hdp : decide (M < p) = false := decide_eq_false hMp
            have hz0 : ¬ 0 < wk.length := fun q => hMp (HMW.out.1 q)
            have hz : ¬ (0 : Int) < (wk.length : Int) := by omega
            clear HM1 HMW HM0
            go_wp2
            go_ret
            exact ⟨rfl, X.trans Y⟩
theorem own : ownKnob Try.prog.godebug = none := by kernel_rfl
theorem laid : laidOutB Try.prog = true := fLaid
set_option maxRecDepth 100000 in
theorem lifted (os : Os) (started : os.Started) (H : Type) (enc : TypeId × Value → H) :
    ReturnsInHanded {} Try.checked os 5 .any (Rows.fnWindsSpec.pre6 enc Try.prog Try.f5 Rows.fnWindsRow.domain false) (Rows.fnWindsSpec.post enc Try.prog Try.f5 false true false false) := by
  refine returnsInHanded_of_change (C := Try.checked) own started (by kernel_rfl) Try.func5
    (ChangeSpec.witness6 (enc := enc) (C := Try.checked) false ⟨#[], #[.slice none 0 0], []⟩ 8 (by kernel_rfl) (by kernel_rfl) (by kernel_rfl) (by kernel_rfl)) ?_
  intro W base args ds gs before hval0 hW hcnd _
  have hval : ∀ (j : Nat) t v, Try.f5.params[j]? = some t → args[j]? = some v → Value.okWide Try.prog W .any base t v := hval0
  have hW' := hW
  obtain ⟨p, q, hA0, hV, rfl, hfz, hnd⟩ := hW
  have hA : DataW.TrodAll enc Try.prog W 0 (fun _ => true) true Try.f5.params.toList args.toList ds p := hA0
  rw [Try.params5] at hA hval
  obtain ⟨v0, vs0, d0, ds0, p0, q0, hargs, rfl, rfl, h0, r0⟩ := trodAll_cons hA
  obtain ⟨rfl, rfl, rfl⟩ := trodAll_nil r0
  obtain rfl : args = #[v0] := by cases args; simp_all
  obtain ⟨rfl, rfl⟩ := trodVars_none hV
  obtain ⟨A0, n0, c0, f0, rfl, i0, j0, k0⟩ := openB Try.underlying22 Try.underlying5 (by kernel_rfl) (hval 0 22 v0 rfl rfl) h0
  clear hA0 hval0
  refine (walk A0 n0 c0 f0 i0 j0 W k0).mono fun e W' ⟨he, hg⟩ => ?_
  subst he
  exact ⟨_, rfl, post_law (tb := 4) laid (by kernel_rfl) (by kernel_rfl) Try.underlying4 hW' rfl rfl rfl rfl hg⟩
set_option maxHeartbeats 4000000 in
set_option maxRecDepth 100000 in
theorem facts : joinedFacts Try.checked.prog 5 Try.f5 Rows.fnWindsSpec Rows.fnWindsRow = true := by
  unfold joinedFacts
  repeat' (with_reducible refine and_intro ?_ ?_)
  all_goals first | with_reducible exact fMayEnter | (with_reducible refine fLifted _ ?_; rfl) | (with_reducible refine fMake _ ?_; rfl) | (with_reducible exact fLaid) | (as_aux_lemma => kernel_rfl)
theorem over : Rows.fnWindsRow.holds Try.pinned (OpenSpec.ofChange Rows.fnWindsSpec) :=
  OpenClaim.holds_of_wide 5 Try.f5 rfl rfl rfl rfl rfl rfl rfl ⟨rfl, rfl, rfl, rfl, rfl⟩ rfl rfl rfl rfl rfl (by kernel_rfl) Try.func5 facts
    (of_decide_eq_true (by kernel_rfl)) (by unfold Func.isWrapper; first | (rw [if_pos (by decide +kernel)]; kernel_rfl) | (rw [if_neg (by decide +kernel)]; exact ⟨rfl, rfl⟩))
    (fun os started H enc _ => lifted os started H enc)
theorem proved : Rows.FnWindsSaid :=
  over
#print axioms proved
end Go.Proofs.Ytgmhmlhdiklaaaa.fnWinds
