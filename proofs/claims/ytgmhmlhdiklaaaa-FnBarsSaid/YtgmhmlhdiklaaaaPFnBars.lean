/-
  The law FnBars of the given program holds: for every input the Go function returns true and each argument reads afterwards as it read before. No conditions.
-/
import Derived.Test.YtgmhmlhdiklaaaaRows
import Derived.Test.YtgmhmlhdiklaaaaFacts
import Derived.Test.YtgmhmlhdiklaaaaBarL
import Derived.Test.YtgmhmlhdiklaaaaWdH
namespace Go.Proofs.Ytgmhmlhdiklaaaa.fnBars
open Go.ChangeShapes Go.WideShapes Go.ChangeAt Go.RowKit
set_option linter.unusedVariables false

set_option maxHeartbeats 16000000 in
set_option maxRecDepth 100000 in
theorem walk (A : Option Addr) (n c : Nat) (f : Nat → Int) (hnc : n ≤ c) (hcm : c ≤ 9223372036854775807) (w : World) (hr : BRecs w A n f) :
    Calls Try.prog 3 #[.slice A n c] w fun e w' => e = .returned (.bool true) ∧ Ext w w' := by
  by_cases hbig : 1048576 < n
  · have hd : decide (1048576 < n) = true := by simpa using hbig
    go_enter Try.func3, Try.ntmps3
    go_wp2_with fail
    refine (big_any A n c (by omega) w).mono ?_
    rintro e w1 ⟨rfl, x1⟩
    go_wp2
    go_ret
    exact ⟨rfl, x1⟩
  · have hd : decide (1048576 < n) = false := by simpa using hbig
    have hn20 : n ≤ 1048576 := by omega
    go_enter Try.func3, Try.ntmps3
    go_wp2_with fail
    refine (big_any A n c (by omega) w).mono ?_
    rintro e w1 ⟨rfl, x1⟩
    clear hd hbig
    go_wp2_with fail
    refine (DrawWindow_any A n c f hnc hcm hn20 _ (hr.ext x1)).mono ?_
    rintro e w2 ⟨A1, n1, c1, zs, B1, m1, d1, ys, rfl, ho, hw, x2⟩
    have hwin := hw
    obtain ⟨hsz, hNo, _⟩ := winB_get hwin
    obtain ⟨gP, rfl⟩ := ho.2.2.2.2.1.some_ (by omega)
    have hi1 := ho.1
    have hi2 := ho.2.1
    have hi3 := ho.2.2.1
    have hi4 := ho.2.2.2.1
    have X := x1.trans x2
    have hB := hr.ext X
    have hP := ho.recsP
    have hL := ho.recsL
    generalize FW zs = P at *
    generalize FW ys = L at *
    clear ho hr x1 x2
    have x3 : Ext w2 (w2.alloc (.cells #[.slice (some ⟨gP, 0, none⟩) n1 c1, .slice B1 m1 d1] 27)) := (Ext.refl _).alloc _
    have k0 : (w2.alloc (.cells #[.slice (some ⟨gP, 0, none⟩) n1 c1, .slice B1 m1 d1] 27)).cell? ⟨w2.heap.size, 0, none⟩ = some (.slice (some ⟨gP, 0, none⟩) n1 c1) := by simp [go_sem]
    have k1 : (w2.alloc (.cells #[.slice (some ⟨gP, 0, none⟩) n1 c1, .slice B1 m1 d1] 27)).cell? ⟨w2.heap.size, 1, none⟩ = some (.slice B1 m1 d1) := by simp [go_sem]
    replace X := X.trans x3
    replace hB := hB.ext x3
    replace hP := hP.ext x3
    replace hL := hL.ext x3
    clear x3
    go_wp2_with fail
    generalize w2.alloc (.cells #[.slice (some ⟨gP, 0, none⟩) n1 c1, .slice B1 m1 d1] 27) = w3 at *
    generalize w2.heap.size = t at *
    refine (at_any A n c f 0 hn20 (by omega) (by omega) _ hB).mono ?_
    rintro e w4 ⟨z0, rfl, hz0, hz1, x4⟩
    replace hP := hP.ext x4
    replace hL := hL.ext x4
    replace hB := hB.ext x4
    replace k0 := x4.cell k0
    replace k1 := x4.cell k1
    replace X := X.trans x4
    clear x4
    have hm0 : 0 ≤ z0 % 8 := Int.emod_nonneg _ (by omega)
    have hm1 : z0 % 8 < 8 := Int.emod_lt_of_pos _ (by omega)
    clear hB
    go_wp2_with fail
    have hp0 : 1 ≤ 1 + z0 % 8 ∧ 1 + z0 % 8 ≤ 8 := by omega
    generalize 1 + z0 % 8 = p at *
    clear hm0 hm1 hz0 hz1
    have HB := Lib.hid (bars_law hwin hp0)
    have HU : ∀ k, k < m1 → hasB (unhV n1 P m1 L (fewV n1 P m1 L p).length (fun i _ => ix (fewV n1 P m1 L p) i)).length (fun j _ => ix (unhV n1 P m1 L (fewV n1 P m1 L p).length (fun i _ => ix (fewV n1 P m1 L p) i)) j) (k : Int) = decide (crsV n1 P m1 L k (fewV n1 P m1 L p).length (fun i _ => ix (fewV n1 P m1 L p) i) = 0) := fun k hk => has_pick hk
    replace HU := Lib.hid HU
    have HN0 := Lib.hid (fun W => (by have q := impl_BarsOk none 0 0 (fun _ _ => 0) (by omega) W (recs_nil W 1); rwa [show barsB 0 (fun _ _ => 0) = true by decide] at q : Calls Try.prog 12 #[.slice none 0 0] W fun e w' => e = .returned (.bool true) ∧ Ext W w'))
    have HW0 := Lib.hid (fun W hP hL => (by have q := impl_WidestGap (some ⟨gP, 0, none⟩) n1 c1 P B1 m1 d1 L hi1 hi2 hi3 hi4 none 0 0 (fun _ _ => 0) (by omega) (by omega) W hP hL (recs_nil W 1); rwa [wid_nil hwin] at q : Calls Try.prog 13 #[.agg #[.slice (some ⟨gP, 0, none⟩) n1 c1, .slice B1 m1 d1], .slice none 0 0] W fun e w' => e = .returned (.int .i64 (hiF P n1 - loF P n1)) ∧ Ext W w'))
    have HLE := Lib.hid (lo_le P n1).1
    have HIN := Lib.hid (lo_le P n1).2
    have HBD := Lib.hid (loF_bd hNo (by omega) n1 (Nat.le_refl _))
    have HE := Lib.hid (fun k (hk : k < m1) => winB_ends hwin hk)
    clear hw hNo
    refine (impl_FewestBars (some ⟨gP, 0, none⟩) n1 c1 P B1 m1 d1 L hi1 hi2 hi3 hi4 p _ hP hL).mono ?_
    rintro e w5 ⟨Ab, cb, rfl, ib, jb, mb, x5⟩
    replace hP := hP.ext x5
    replace hL := hL.ext x5
    replace k0 := x5.cell k0
    replace k1 := x5.cell k1
    replace X := X.trans x5
    clear x5
    have hb := mb.recs
    clear mb
    generalize fewV n1 P m1 L p = l at *
    have hn0 : (0 : Int) < (n1 : Int) := by omega
    have c01 : w5.cell? ⟨gP, 1, none⟩ = some (.int .i64 (P 0 1)) := by have := (hP.cell2 (k := 0) (by omega)).2; simpa using this
    go_wp2
    go_loop [6, 7, 8] (fun a b i => ∃ k : Nat, k ≤ n1 ∧ a = .int .i64 (loF P k) ∧ b = .int .i64 (hiF P k) ∧ i = .int .i64 k) (fun _ _ i => n1 - (intOf i).toNat)
    case atStart => exact ⟨0, Nat.zero_le _, rfl, rfl, rfl⟩
    case round =>
      obtain ⟨k, hk, rfl, rfl, rfl⟩ := hrel
      by_cases hlt : k < n1
      · have c1 := (hP.cell2 hlt).2
        rw [Nat.zero_add] at c1
        have e1 : (0 : Int) ≤ (k : Int) := by omega
        have e2 : (k : Int) < (n1 : Int) := by omega
        have HL := Lib.hid (show loF P (k + 1) = min (loF P k) (P k 1) from rfl)
        have HH := Lib.hid (show hiF P (k + 1) = max (hiF P k) (P k 1) from rfl)
        generalize loF P k = lo at HL ⊢
        generalize hiF P k = hi at HH ⊢
        generalize P k 1 = z at HL HH c1 ⊢
        go_wp2
        go_round
        case rel => exact ⟨k + 1, by omega, by rw [HL.out]; refine congrArg (Value.int .i64) ?_; split <;> omega, by rw [HH.out]; refine congrArg (Value.int .i64) ?_; split <;> omega, by go_num⟩
        case measure => simp [intOf]; omega
      · obtain rfl : n1 = k := by omega
        have hbd := HBD.out
        have hle := HLE.out
        generalize loF P n1 = lo at *
        generalize hiF P n1 = hi at *
        by_cases hs : 11 * p < hi - lo
        · have hl0 := HB.out.1 hs
          subst hl0
          clear HB HU HIN HE
          go_wp2_with fail
          refine (HN0.out _).mono ?_
          rintro e w6 ⟨rfl, x6⟩
          replace hP := hP.ext x6
          replace hL := hL.ext x6
          replace k0 := x6.cell k0
          replace k1 := x6.cell k1
          replace X := X.trans x6
          clear x6
          go_wp2_with fail
          refine (HW0.out _ hP hL).mono ?_
          rintro e w7 ⟨rfl, x7⟩
          replace hP := hP.ext x7
          replace hL := hL.ext x7
          replace k0 := x7.cell k0
          replace k1 := x7.cell k1
          replace X := X.trans x7
          clear x7
          go_wp2
          go_ret
          exact ⟨rfl, X⟩
        · obtain ⟨b1, b2, b3, b4, b5, b6⟩ := HB.out.2 (by omega)
          have HB6 := Lib.hid b6
          clear HB b6
          have HNB := Lib.hid (fun W (hb : Recs W 1 Ab l.length fun k _ => ix l k) => (by have q := impl_BarsOk Ab l.length cb _ (by omega) W hb; rwa [b1] at q : Calls Try.prog 12 #[.slice Ab l.length cb] W fun e w' => e = .returned (.bool true) ∧ Ext W w'))
          have hkp0 : 0 ≤ (l.length : Int) * p := Int.mul_nonneg (by omega) (by omega)
          have hkp1 : (l.length : Int) * p ≤ 80 := Int.le_trans (Int.mul_le_mul (show (l.length : Int) ≤ 10 by omega) (show p ≤ 8 by omega) (by omega) (by omega)) (by omega)
          have hkq0 : 0 ≤ ((l.length : Int) + 1) * p := Int.mul_nonneg (by omega) (by omega)
          have hkq1 : ((l.length : Int) + 1) * p ≤ 88 := Int.le_trans (Int.mul_le_mul (show (l.length : Int) + 1 ≤ 11 by omega) (show p ≤ 8 by omega) (by omega) (by omega)) (by omega)
          have b3' : ¬ p < widV n1 P m1 L l.length (fun i _ => ix l i) := by omega
          have b5' : ¬ ((l.length : Int) + 1) * p < hi - lo := by omega
          clear b1 b3 b5
          obtain ⟨gw, hgw⟩ : ∃ gw, gw = widV n1 P m1 L l.length (fun i _ => ix l i) := ⟨_, rfl⟩
          have HGW := Lib.hid hgw
          rw [← hgw] at b3'
          clear hgw
          have REST : True := trivial
          by_cases hsp : 0 < hi - lo - 1
          · have b4' : ¬ hi - lo - 1 < (l.length : Int) * p := by omega
            clear b4
            go_wp2_with fail
            refine (HNB.out _ hb).mono ?_
            rintro e w6 ⟨rfl, x6⟩
            replace hP := hP.ext x6
            replace hL := hL.ext x6
            replace hb := hb.ext x6
            replace k0 := x6.cell k0
            replace k1 := x6.cell k1
            replace X := X.trans x6
            clear x6
            go_wp2_with fail
            refine (impl_WidestGap (some ⟨gP, 0, none⟩) n1 c1 P B1 m1 d1 L hi1 hi2 hi3 hi4 Ab l.length cb _ ib jb _ hP hL hb).mono ?_
            rintro e w7 ⟨rfl, x7⟩
            replace hP := hP.ext x7
            replace hL := hL.ext x7
            replace hb := hb.ext x7
            replace k0 := x7.cell k0
            replace k1 := x7.cell k1
            replace X := X.trans x7
            clear x7
            rw [← HGW.out]
            go_wp2_with fail
            refine (HW0.out _ hP hL).mono ?_
            rintro e w8 ⟨rfl, x8⟩
            replace hP := hP.ext x8
            replace hL := hL.ext x8
            replace hb := hb.ext x8
            replace k0 := x8.cell k0
            replace k1 := x8.cell k1
            replace X := X.trans x8
            clear x8
            go_wp2_with fail
            refine (impl_UnheldLeads (some ⟨gP, 0, none⟩) n1 c1 P B1 m1 d1 L hi1 hi2 hi3 hi4 Ab l.length cb _ ib jb (by omega) _ hP hL hb).mono ?_
            rintro e w9 ⟨Au, cu, rfl, iu, ju, mu, x9⟩
            replace hP := hP.ext x9
            replace hL := hL.ext x9
            replace hb := hb.ext x9
            replace k0 := x9.cell k0
            replace k1 := x9.cell k1
            replace X := X.trans x9
            clear x9
            have hu := mu.recs
            clear mu
            generalize unhV n1 P m1 L l.length (fun i _ => ix l i) = u at *
            go_wp2
            go_loopw [11, 12, 13, 14] (fun i s12 s13 s14 wr => ∃ j : Nat, j ≤ m1 ∧ i = .int .i64 j ∧ Ext w9 wr) (fun i _ _ _ _ => m1 - (intOf i).toNat)
            case atStart => exact ⟨0, Nat.zero_le _, rfl, Ext.refl _⟩
            case round =>
              obtain ⟨j, hj, rfl, Y⟩ := hrel
              have hPj := hP.ext Y
              have hLj := hL.ext Y
              have hbj := hb.ext Y
              have huj := hu.ext Y
              have k0j := Y.cell k0
              have k1j := Y.cell k1
              by_cases hlt : j < m1
              · obtain ⟨hz0, hz1, hz2⟩ := HB6.out j hlt
                have HHU := HU.out j hlt
                have hends := HE.out j hlt
                obtain ⟨bL, oL, rfl, _, l0, l1⟩ := hLj.at2 hlt
                rw [hends.1] at l0
                rw [hends.2.1] at l1
                obtain ⟨he1, he2⟩ := hends.2.2
                have n0 := (hPj.cell2 (k := fromN L j) (by omega)).2
                have n1' := (hPj.cell2 (k := toN L j) he2).2
                rw [Nat.zero_add] at n0 n1'
                have HCR := impl_CrossedBy (some ⟨gP, 0, none⟩) n1 c1 P (some ⟨bL, oL, none⟩) m1 d1 L hi1 hi2 hi3 hi4 (j : Int) Ab l.length cb _ ib jb wr hPj hLj hbj
                clear hends
                generalize crsV n1 P m1 L (j : Int) l.length (fun i _ => ix l i) = z at *
                go_wp2_with fail
                refine HCR.mono ?_
                rintro e wa ⟨rfl, xa⟩
                replace k0j := xa.cell k0j
                replace k1j := xa.cell k1j
                replace l0 := xa.cell l0
                replace l1 := xa.cell l1
                replace n0 := xa.cell n0
                replace n1' := xa.cell n1'
                replace huj := huj.ext xa
                have Z := Y.trans xa
                clear Y xa HCR hPj hLj hbj
                have e1 : (0 : Int) ≤ (j : Int) := by omega
                have e2 : (j : Int) < (m1 : Int) := by omega
                have e3 : (0 : Int) ≤ (fromN L j : Int) := by omega
                have e4 : (fromN L j : Int) < (n1 : Int) := by omega
                have e5 : (0 : Int) ≤ (toN L j : Int) := by omega
                have e6 : (toN L j : Int) < (n1 : Int) := by omega
                generalize fromN L j = fa at *
                generalize toN L j = ta at *
                generalize P fa 1 = ya at *
                generalize P ta 1 = yb at *
                have HHA := fun W (hW : Recs W 1 Au u.length fun k _ => ix u k) => has_any Au u.length cu _ (j : Int) (by omega) W hW
                rw [HHU] at HHA
                replace HHA := Lib.hid HHA
                clear HHU
                go_wp2_with fail
                go_region_held3 (fun w' => w'.cell? ⟨t, 0, none⟩ = some (.slice (some ⟨gP, 0, none⟩) n1 c1) ∧ w'.cell? ⟨t, 1, none⟩ = some (.slice (some ⟨bL, oL, none⟩) m1 d1) ∧ w'.cell? ⟨bL, oL + j * 2, none⟩ = some (.int .i64 (fa : Int)) ∧ w'.cell? ⟨gP, fa * 2 + 1, none⟩ = some (.int .i64 ya)) (first | exact ⟨k0j, k1j, l0, n0⟩) (first | fail)
                go_wp2_with fail
                go_region_held3 (fun w' => w'.cell? ⟨t, 0, none⟩ = some (.slice (some ⟨gP, 0, none⟩) n1 c1) ∧ w'.cell? ⟨t, 1, none⟩ = some (.slice (some ⟨bL, oL, none⟩) m1 d1) ∧ w'.cell? ⟨bL, oL + j * 2 + 1, none⟩ = some (.int .i64 (ta : Int)) ∧ w'.cell? ⟨gP, ta * 2 + 1, none⟩ = some (.int .i64 yb)) (first | exact ⟨k0j, k1j, l1, n1'⟩) (first | fail)
                have huj2 := huj.ext (Ext.refl _).drew.drew
                have Z2 := Z.drew.drew
                clear huj Z k0j k1j l0 l1 n0 n1'
                by_cases hz : z = 0
                · subst hz
                  have hgap := hz2 rfl
                  clear hz2
                  have h0l : ¬ (l.length : Int) < 0 := by omega
                  obtain hab | rfl | hab : ya < yb ∨ ya = yb ∨ yb < ya := by omega
                  · have h1 : ¬ p < yb - ya := by omega
                    have h2 : ¬ yb < ya := by omega
                    go_wp2_with fail
                    refine (HHA.out _ huj2).mono ?_
                    rintro e wb ⟨rfl, xb⟩
                    have Zb := Z2.trans xb
                    clear xb huj2 HHA
                    go_wp2
                    go_roundw
                    case rel => exact ⟨j + 1, by omega, by go_num, Zb⟩
                    case measure => simp [intOf]; omega
                  · have h1 : ¬ p < ya - ya := by omega
                    go_wp2_with fail
                    refine (HHA.out _ huj2).mono ?_
                    rintro e wb ⟨rfl, xb⟩
                    have Zb := Z2.trans xb
                    clear xb huj2 HHA
                    go_wp2
                    go_roundw
                    case rel => exact ⟨j + 1, by omega, by go_num, Zb⟩
                    case measure => simp [intOf]; omega
                  · have h1 : ¬ p < ya - yb := by omega
                    have h2 : ¬ ya < yb := by omega
                    go_wp2_with fail
                    refine (HHA.out _ huj2).mono ?_
                    rintro e wb ⟨rfl, xb⟩
                    have Zb := Z2.trans xb
                    clear xb huj2 HHA
                    go_wp2
                    go_roundw
                    case rel => exact ⟨j + 1, by omega, by go_num, Zb⟩
                    case measure => simp [intOf]; omega
                · clear hz2
                  have h0l : ¬ (l.length : Int) < z := by omega
                  have hzn : ¬ z < 0 := by omega
                  have hzb : (z == 0) = false := by simpa using hz
                  go_wp2_with fail
                  refine (HHA.out _ huj2).mono ?_
                  rintro e wb ⟨rfl, xb⟩
                  have Zb := Z2.trans xb
                  clear xb huj2 HHA
                  go_wp2
                  go_roundw
                  case rel => exact ⟨j + 1, by omega, by go_num, Zb⟩
                  case measure => simp [intOf]; omega
              · obtain rfl : m1 = j := by omega
                go_wp2
                go_ret
                exact ⟨rfl, X.trans Y⟩
          · have b4' : ¬ 0 < (l.length : Int) * p := by omega
            clear b4
            go_wp2_with fail
            refine (HNB.out _ hb).mono ?_
            rintro e w6 ⟨rfl, x6⟩
            replace hP := hP.ext x6
            replace hL := hL.ext x6
            replace hb := hb.ext x6
            replace k0 := x6.cell k0
            replace k1 := x6.cell k1
            replace X := X.trans x6
            clear x6
            go_wp2_with fail
            refine (impl_WidestGap (some ⟨gP, 0, none⟩) n1 c1 P B1 m1 d1 L hi1 hi2 hi3 hi4 Ab l.length cb _ ib jb _ hP hL hb).mono ?_
            rintro e w7 ⟨rfl, x7⟩
            replace hP := hP.ext x7
            replace hL := hL.ext x7
            replace hb := hb.ext x7
            replace k0 := x7.cell k0
            replace k1 := x7.cell k1
            replace X := X.trans x7
            clear x7
            rw [← HGW.out]
            go_wp2_with fail
            refine (HW0.out _ hP hL).mono ?_
            rintro e w8 ⟨rfl, x8⟩
            replace hP := hP.ext x8
            replace hL := hL.ext x8
            replace hb := hb.ext x8
            replace k0 := x8.cell k0
            replace k1 := x8.cell k1
            replace X := X.trans x8
            clear x8
            go_wp2_with fail
            refine (impl_UnheldLeads (some ⟨gP, 0, none⟩) n1 c1 P B1 m1 d1 L hi1 hi2 hi3 hi4 Ab l.length cb _ ib jb (by omega) _ hP hL hb).mono ?_
            rintro e w9 ⟨Au, cu, rfl, iu, ju, mu, x9⟩
            replace hP := hP.ext x9
            replace hL := hL.ext x9
            replace hb := hb.ext x9
            replace k0 := x9.cell k0
            replace k1 := x9.cell k1
            replace X := X.trans x9
            clear x9
            have hu := mu.recs
            clear mu
            generalize unhV n1 P m1 L l.length (fun i _ => ix l i) = u at *
            go_wp2
            go_loopw [11, 12, 13, 14] (fun i s12 s13 s14 wr => ∃ j : Nat, j ≤ m1 ∧ i = .int .i64 j ∧ Ext w9 wr) (fun i _ _ _ _ => m1 - (intOf i).toNat)
            case atStart => exact ⟨0, Nat.zero_le _, rfl, Ext.refl _⟩
            case round =>
              obtain ⟨j, hj, rfl, Y⟩ := hrel
              have hPj := hP.ext Y
              have hLj := hL.ext Y
              have hbj := hb.ext Y
              have huj := hu.ext Y
              have k0j := Y.cell k0
              have k1j := Y.cell k1
              by_cases hlt : j < m1
              · obtain ⟨hz0, hz1, hz2⟩ := HB6.out j hlt
                have HHU := HU.out j hlt
                have hends := HE.out j hlt
                obtain ⟨bL, oL, rfl, _, l0, l1⟩ := hLj.at2 hlt
                rw [hends.1] at l0
                rw [hends.2.1] at l1
                obtain ⟨he1, he2⟩ := hends.2.2
                have n0 := (hPj.cell2 (k := fromN L j) (by omega)).2
                have n1' := (hPj.cell2 (k := toN L j) he2).2
                rw [Nat.zero_add] at n0 n1'
                have HCR := impl_CrossedBy (some ⟨gP, 0, none⟩) n1 c1 P (some ⟨bL, oL, none⟩) m1 d1 L hi1 hi2 hi3 hi4 (j : Int) Ab l.length cb _ ib jb wr hPj hLj hbj
                clear hends
                generalize crsV n1 P m1 L (j : Int) l.length (fun i _ => ix l i) = z at *
                go_wp2_with fail
                refine HCR.mono ?_
                rintro e wa ⟨rfl, xa⟩
                replace k0j := xa.cell k0j
                replace k1j := xa.cell k1j
                replace l0 := xa.cell l0
                replace l1 := xa.cell l1
                replace n0 := xa.cell n0
                replace n1' := xa.cell n1'
                replace huj := huj.ext xa
                have Z := Y.trans xa
                clear Y xa HCR hPj hLj hbj
                have e1 : (0 : Int) ≤ (j : Int) := by omega
                have e2 : (j : Int) < (m1 : Int) := by omega
                have e3 : (0 : Int) ≤ (fromN L j : Int) := by omega
                have e4 : (fromN L j : Int) < (n1 : Int) := by omega
                have e5 : (0 : Int) ≤ (toN L j : Int) := by omega
                have e6 : (toN L j : Int) < (n1 : Int) := by omega
                generalize fromN L j = fa at *
                generalize toN L j = ta at *
                generalize P fa 1 = ya at *
                generalize P ta 1 = yb at *
                have HHA := fun W (hW : Recs W 1 Au u.length fun k _ => ix u k) => has_any Au u.length cu _ (j : Int) (by omega) W hW
                rw [HHU] at HHA
                replace HHA := Lib.hid HHA
                clear HHU
                go_wp2_with fail
                go_region_held3 (fun w' => w'.cell? ⟨t, 0, none⟩ = some (.slice (some ⟨gP, 0, none⟩) n1 c1) ∧ w'.cell? ⟨t, 1, none⟩ = some (.slice (some ⟨bL, oL, none⟩) m1 d1) ∧ w'.cell? ⟨bL, oL + j * 2, none⟩ = some (.int .i64 (fa : Int)) ∧ w'.cell? ⟨gP, fa * 2 + 1, none⟩ = some (.int .i64 ya)) (first | exact ⟨k0j, k1j, l0, n0⟩) (first | fail)
                go_wp2_with fail
                go_region_held3 (fun w' => w'.cell? ⟨t, 0, none⟩ = some (.slice (some ⟨gP, 0, none⟩) n1 c1) ∧ w'.cell? ⟨t, 1, none⟩ = some (.slice (some ⟨bL, oL, none⟩) m1 d1) ∧ w'.cell? ⟨bL, oL + j * 2 + 1, none⟩ = some (.int .i64 (ta : Int)) ∧ w'.cell? ⟨gP, ta * 2 + 1, none⟩ = some (.int .i64 yb)) (first | exact ⟨k0j, k1j, l1, n1'⟩) (first | fail)
                have huj2 := huj.ext (Ext.refl _).drew.drew
                have Z2 := Z.drew.drew
                clear huj Z k0j k1j l0 l1 n0 n1'
                by_cases hz : z = 0
                · subst hz
                  have hgap := hz2 rfl
                  clear hz2
                  have h0l : ¬ (l.length : Int) < 0 := by omega
                  obtain hab | rfl | hab : ya < yb ∨ ya = yb ∨ yb < ya := by omega
                  · have h1 : ¬ p < yb - ya := by omega
                    have h2 : ¬ yb < ya := by omega
                    go_wp2_with fail
                    refine (HHA.out _ huj2).mono ?_
                    rintro e wb ⟨rfl, xb⟩
                    have Zb := Z2.trans xb
                    clear xb huj2 HHA
                    go_wp2
                    go_roundw
                    case rel => exact ⟨j + 1, by omega, by go_num, Zb⟩
                    case measure => simp [intOf]; omega
                  · have h1 : ¬ p < ya - ya := by omega
                    go_wp2_with fail
                    refine (HHA.out _ huj2).mono ?_
                    rintro e wb ⟨rfl, xb⟩
                    have Zb := Z2.trans xb
                    clear xb huj2 HHA
                    go_wp2
                    go_roundw
                    case rel => exact ⟨j + 1, by omega, by go_num, Zb⟩
                    case measure => simp [intOf]; omega
                  · have h1 : ¬ p < ya - yb := by omega
                    have h2 : ¬ ya < yb := by omega
                    go_wp2_with fail
                    refine (HHA.out _ huj2).mono ?_
                    rintro e wb ⟨rfl, xb⟩
                    have Zb := Z2.trans xb
                    clear xb huj2 HHA
                    go_wp2
                    go_roundw
                    case rel => exact ⟨j + 1, by omega, by go_num, Zb⟩
                    case measure => simp [intOf]; omega
                · clear hz2
                  have h0l : ¬ (l.length : Int) < z := by omega
                  have hzn : ¬ z < 0 := by omega
                  have hzb : (z == 0) = false := by simpa using hz
                  go_wp2_with fail
                  refine (HHA.out _ huj2).mono ?_
                  rintro e wb ⟨rfl, xb⟩
                  have Zb := Z2.trans xb
                  clear xb huj2 HHA
                  go_wp2
                  go_roundw
                  case rel => exact ⟨j + 1, by omega, by go_num, Zb⟩
                  case measure => simp [intOf]; omega
              · obtain rfl : m1 = j := by omega
                go_wp2
                go_ret
                exact ⟨rfl, X.trans Y⟩
theorem own : ownKnob Try.prog.godebug = none := by kernel_rfl
theorem laid : laidOutB Try.prog = true := fLaid
set_option maxRecDepth 100000 in
theorem lifted (os : Os) (started : os.Started) (H : Type) (enc : TypeId × Value → H) :
    ReturnsInHanded {} Try.checked os 3 .any (Rows.fnBarsSpec.pre6 enc Try.prog Try.f3 Rows.fnBarsRow.domain false) (Rows.fnBarsSpec.post enc Try.prog Try.f3 false true false false) := by
  refine returnsInHanded_of_change (C := Try.checked) own started (by kernel_rfl) Try.func3
    (ChangeSpec.witness6 (enc := enc) (C := Try.checked) false ⟨#[], #[.slice none 0 0], []⟩ 8 (by kernel_rfl) (by kernel_rfl) (by kernel_rfl) (by kernel_rfl)) ?_
  intro W base args ds gs before hval0 hW hcnd _
  have hval : ∀ (j : Nat) t v, Try.f3.params[j]? = some t → args[j]? = some v → Value.okWide Try.prog W .any base t v := hval0
  have hW' := hW
  obtain ⟨p, q, hA0, hV, rfl, hfz, hnd⟩ := hW
  have hA : DataW.TrodAll enc Try.prog W 0 (fun _ => true) true Try.f3.params.toList args.toList ds p := hA0
  rw [Try.params3] at hA hval
  obtain ⟨v0, vs0, d0, ds0, p0, q0, hargs, rfl, rfl, h0, r0⟩ := trodAll_cons hA
  obtain ⟨rfl, rfl, rfl⟩ := trodAll_nil r0
  obtain rfl : args = #[v0] := by cases args; simp_all
  obtain ⟨rfl, rfl⟩ := trodVars_none hV
  obtain ⟨A0, n0, c0, f0, rfl, i0, j0, k0⟩ := openB Try.underlying22 Try.underlying5 (by kernel_rfl) (hval 0 22 v0 rfl rfl) h0
  clear hA0 hval0
  refine (walk A0 n0 c0 f0 i0 j0 W k0).mono fun e W' ⟨he, hg⟩ => ?_
  subst he
  exact ⟨_, rfl, post_law (tb := 4) laid (by kernel_rfl) (by kernel_rfl) Try.underlying4 hW' rfl rfl rfl rfl hg⟩
set_option maxHeartbeats 4000000 in
set_option maxRecDepth 100000 in
theorem facts : joinedFacts Try.checked.prog 3 Try.f3 Rows.fnBarsSpec Rows.fnBarsRow = true := by
  unfold joinedFacts
  repeat' (with_reducible refine and_intro ?_ ?_)
  all_goals first | with_reducible exact fMayEnter | (with_reducible refine fLifted _ ?_; rfl) | (with_reducible refine fMake _ ?_; rfl) | (with_reducible exact fLaid) | (as_aux_lemma => kernel_rfl)
theorem over : Rows.fnBarsRow.holds Try.pinned (OpenSpec.ofChange Rows.fnBarsSpec) :=
  OpenClaim.holds_of_wide 3 Try.f3 rfl rfl rfl rfl rfl rfl rfl ⟨rfl, rfl, rfl, rfl, rfl⟩ rfl rfl rfl rfl rfl (by kernel_rfl) Try.func3 facts
    (of_decide_eq_true (by kernel_rfl)) (by unfold Func.isWrapper; first | (rw [if_pos (by decide +kernel)]; kernel_rfl) | (rw [if_neg (by decide +kernel)]; exact ⟨rfl, rfl⟩))
    (fun os started H enc _ => lifted os started H enc)
theorem proved : Rows.FnBarsSaid :=
  over
#print axioms proved
end Go.Proofs.Ytgmhmlhdiklaaaa.fnBars
