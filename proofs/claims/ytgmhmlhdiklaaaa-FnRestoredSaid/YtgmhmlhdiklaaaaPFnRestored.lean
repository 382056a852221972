/-
  The law FnRestored of the given program holds: for every input the Go function returns true and each argument reads afterwards as it read before. No conditions.
-/
import Derived.Test.YtgmhmlhdiklaaaaRows
import Derived.Test.YtgmhmlhdiklaaaaFacts
import Derived.Test.YtgmhmlhdiklaaaaRstL
import Derived.Test.YtgmhmlhdiklaaaaWdI
import Derived.Test.YtgmhmlhdiklaaaaRepM
import Derived.Test.YtgmhmlhdiklaaaaRepl
import Derived.Test.YtgmhmlhdiklaaaaHisM
import Derived.Test.YtgmhmlhdiklaaaaSixM
import Derived.Test.YtgmhmlhdiklaaaaMayI
import Derived.Test.YtgmhmlhdiklaaaaAreM
import Derived.Test.YtgmhmlhdiklaaaaFacM
import Derived.Test.YtgmhmlhdiklaaaaHasM
namespace Go.Proofs.Ytgmhmlhdiklaaaa.fnRestored
open Go.ChangeShapes Go.WideShapes Go.ChangeAt Go.RowKit
set_option linter.unusedVariables false

set_option maxHeartbeats 16000000 in
set_option maxRecDepth 100000 in
theorem walk (A : Option Addr) (n c : Nat) (f : Nat → Int) (hnc : n ≤ c) (hcm : c ≤ 9223372036854775807) (w : World) (hr : BRecs w A n f) :
    Calls Try.prog 7 #[.slice A n c] w fun e w' => e = .returned (.bool true) ∧ Ext w w' := by
  by_cases hbig : 1048576 < n
  · have hd : decide (1048576 < n) = true := by simpa using hbig
    go_enter Try.func7, Try.ntmps7
    go_wp2_with fail
    refine (big_any A n c (by omega) w).mono ?_
    rintro e w1 ⟨rfl, x1⟩
    go_wp2
    go_ret
    exact ⟨rfl, x1⟩
  · have hd : decide (1048576 < n) = false := by simpa using hbig
    have hn20 : n ≤ 1048576 := by omega
    go_enter Try.func7, Try.ntmps7
    go_wp2_with fail
    refine (big_any A n c (by omega) w).mono ?_
    rintro e w1 ⟨rfl, x1⟩
    clear hd hbig
    go_wp2_with fail
    refine (DrawWhole_any A n c f hnc hcm hn20 _ (hr.ext x1)).mono ?_
    rintro e w2 ⟨A1, n1, c1, zs, B1, m1, d1, ys, rfl, ho, hw, x2⟩
    have hwin := (wholeB_get hw).1
    obtain ⟨hsz, hNo, _⟩ := winB_get hwin
    obtain ⟨gP, rfl⟩ := ho.2.2.2.2.1.some_ (by omega)
    have hi1 := ho.1
    have hi2 := ho.2.1
    have hi3 := ho.2.2.1
    have hi4 := ho.2.2.2.1
    have X := x1.trans x2
    have hB := hr.ext X
    have hP := ho.recsP
    have hL := ho.recsL
    generalize FW zs = P at *
    generalize FW ys = L at *
    clear ho hr x1 x2
    have x3 : Ext w2 (w2.alloc (.cells #[.slice (some ⟨gP, 0, none⟩) n1 c1, .slice B1 m1 d1] 27)) := (Ext.refl _).alloc _
    have k0 : (w2.alloc (.cells #[.slice (some ⟨gP, 0, none⟩) n1 c1, .slice B1 m1 d1] 27)).cell? ⟨w2.heap.size, 0, none⟩ = some (.slice (some ⟨gP, 0, none⟩) n1 c1) := by simp [go_sem]
    have k1 : (w2.alloc (.cells #[.slice (some ⟨gP, 0, none⟩) n1 c1, .slice B1 m1 d1] 27)).cell? ⟨w2.heap.size, 1, none⟩ = some (.slice B1 m1 d1) := by simp [go_sem]
    replace X := X.trans x3
    replace hB := hB.ext x3
    replace hP := hP.ext x3
    replace hL := hL.ext x3
    clear x3
    go_wp2_with fail
    generalize w2.alloc (.cells #[.slice (some ⟨gP, 0, none⟩) n1 c1, .slice B1 m1 d1] 27) = w3 at *
    generalize w2.heap.size = t at *
    obtain ⟨ko, hko, oko, hneg, _⟩ := wall_only hw
    have hFL := faces_len (n := n1) (m := m1) (P := P) (L := L)
    have HFS := Lib.hid (fun W (hP : Recs W 2 (some ⟨gP, 0, none⟩) n1 P) (hL : Recs W 2 B1 m1 L) => spec_FacesOf (some ⟨gP, 0, none⟩) n1 c1 P B1 m1 d1 L hi1 hi2 hi3 hi4 W hP hL)
    have HAT := Lib.hid (fun (i : Int) (h0 : 0 ≤ i) (h1 : i ≤ 100) W (hB : BRecs W A n f) => at_any A n c f i hn20 h0 (by omega) W hB)
    have HTA := Lib.hid (fun W (hP : Recs W 2 (some ⟨gP, 0, none⟩) n1 P) (hL : Recs W 2 B1 m1 L) => spec_TotalArea (some ⟨gP, 0, none⟩) n1 c1 P B1 m1 d1 L hi1 hi2 hi3 hi4 W hP hL)
    have HAR := Lib.hid (fun f (hf : 0 ≤ f ∧ f ≤ 1000) W (hP : Recs W 2 (some ⟨gP, 0, none⟩) n1 P) (hL : Recs W 2 B1 m1 L) => spec_AreaOf (some ⟨gP, 0, none⟩) n1 c1 P B1 m1 d1 L hi1 hi2 hi3 hi4 f (by omega) W hP hL)
    have HOF := Lib.hid (fun W (hP : Recs W 2 (some ⟨gP, 0, none⟩) n1 P) (hL : Recs W 2 B1 m1 L) => spec_OuterFace (some ⟨gP, 0, none⟩) n1 c1 P B1 m1 d1 L hi1 hi2 hi3 hi4 W hP hL)
    have HST := Lib.hid (fun N hN s hs => hist_start hw (N := N) hN (s := s) hs)
    have HOL := Lib.hid (fun N hN => old_start hw (N := N) hN)
    have HZE := Lib.hid (fun N hN => zeros_hist N hw hN)
    have HSP := Lib.hid (fun s hs j hj zs done h f hf => hist_step hw (s := s) hs (j := j) hj (zs := zs) (done := done) h (f := f) hf)
    have HMO := Lib.hid (fun nh fh s => may_outer (n := n1) (m := m1) (P := P) (L := L) nh fh s)
    have HFA := Lib.hid (fun (f : Nat) => areaV_rng (n := n1) (m := m1) (P := P) (L := L) (f : Int))
    clear hw hneg
    refine (HFS.out _ hP hL).mono ?_
    rintro e w4 ⟨Af, cf, rfl, _, _, _, x4⟩
    replace hP := hP.ext x4
    replace hL := hL.ext x4
    replace hB := hB.ext x4
    replace k0 := x4.cell k0
    replace k1 := x4.cell k1
    replace X := X.trans x4
    clear x4 HFS
    obtain ⟨NF, hNF⟩ : ∃ NF, NF = (facesV n1 P m1 L).length := ⟨_, rfl⟩
    have HNF := Lib.hid hNF
    rw [← hNF] at hko hFL
    rw [← hNF]
    clear hNF
    have hNZ : ¬ (NF : Int) = 0 := by omega
    have hm0 := Mine.lit0 w4 3
    go_wp2
    go_loopw [5, 6] (fun v i wr => ∃ j : Nat, j ≤ NF ∧ i = .int .i64 j ∧ Mine w4.heap.size wr 3 v j (tab j fun _ => 0) ∧ Ext w4 wr) (fun _ i _ => NF - (intOf i).toNat)
    case atStart => exact ⟨0, Nat.zero_le _, rfl, by simpa [tab] using hm0, (Ext.refl w4).alloc _⟩
    case round =>
      obtain ⟨j, hj, rfl, hm, Y⟩ := hrel
      clear hm0
      by_cases hlt : j < NF
      · obtain ⟨A', c', rfl, hc1, hc2⟩ := hm.form
        have hts : tab (j + 1) (fun _ => (0 : Int)) = tab j (fun _ => 0) ++ [0] := by simp [tab, List.range_succ]
        have HTS := Lib.hid hts
        clear hts
        go_wp2_with (at_builtin; refine append_int _ rfl _ _ rfl w4.heap.size _ _ _ rfl (hm.alloc _) (0 : Int) _ rfl (cell_new1 (by simp)) (by unfold I64; omega) (by omega) (by rw [World.size_alloc]; have := Y.size; omega) ?_; intro v2 w2 hm2 hg2; have he2 := (hm.alloc (.cells #[.int .i64 (0 : Int)] 3)).fresh (Y.alloc (.cells #[.int .i64 (0 : Int)] 3)) (Nat.le_refl _) hg2 rfl)
        go_roundw
        case rel => exact ⟨j + 1, by omega, by go_num, by rw [HTS.out]; exact hm2, he2⟩
        case measure => simp [intOf]; omega
      · obtain rfl : NF = j := by omega
        obtain ⟨A5, c5, rfl, hc1, hc2⟩ := hm.form
        replace hP := hP.ext Y
        replace hL := hL.ext Y
        replace hB := hB.ext Y
        replace k0 := Y.cell k0
        replace k1 := Y.cell k1
        replace X := X.trans Y
        have hmA := hm
        clear hm
        go_wp2_with fail
        refine (HAT.out 0 (by omega) (by omega) _ hB).mono ?_
        rintro e w5 ⟨z0, rfl, hz00, hz01, x5⟩
        replace hP := hP.ext x5
        replace hL := hL.ext x5
        replace hB := hB.ext x5
        replace hmA := hmA.ext x5
        replace k0 := x5.cell k0
        replace k1 := x5.cell k1
        replace X := X.trans x5
        clear x5
        have hs0 : 0 ≤ z0 % 101 := Int.emod_nonneg _ (by omega)
        have hs1 : z0 % 101 ≤ 100 := by have := Int.emod_lt_of_pos z0 (show (0 : Int) < 101 by omega); omega
        go_wp2_with fail
        generalize z0 % 101 = sh at *
        clear hz00 hz01
        obtain ⟨hH0, hT0, hT1⟩ := HST.out NF HNF.out sh ⟨hs0, hs1⟩
        have hz0 := HZE.out NF HNF.out
        have hol := HOL.out NF HNF.out
        rw [tab_len] at hz0 hol
        have hor := hH0.2.2.2.2.1
        rw [tab_len] at hor
        obtain ⟨zs, hzs⟩ : ∃ zs : List Int, zs = tab NF fun _ => 0 := ⟨_, rfl⟩
        rw [← hzs] at hz0 hol hor hH0 hmA
        clear hzs HST HOL HZE
        have HH0 := Lib.hid hH0
        have hol2 : ((oldV n1 P m1 L NF (fun i _ => ix zs i)).length : Int) = (NF : Int) - 1 := by rw [hol]; omega
        clear hol hH0
        refine (HTA.out _ hP hL).mono ?_
        rintro e w6 ⟨rfl, x6⟩
        replace hP := hP.ext x6
        replace hL := hL.ext x6
        replace hB := hB.ext x6
        replace hmA := hmA.ext x6
        replace k0 := x6.cell k0
        replace k1 := x6.cell k1
        replace X := X.trans x6
        clear x6
        obtain ⟨T, hTV⟩ : ∃ T, T = totalV n1 P m1 L := ⟨_, rfl⟩
        rw [← hTV] at hor hT0 hT1
        rw [← hTV]
        have HTV := Lib.hid hTV
        clear hTV
        have rh := hmA.recs
        have HHK := fun W (hP : Recs W 2 (some ⟨gP, 0, none⟩) n1 P) (hL : Recs W 2 B1 m1 L) (rh : Recs W 1 A5 NF fun k _ => ix zs k) => impl_HistoryOk (some ⟨gP, 0, none⟩) n1 c1 P B1 m1 d1 L hi1 hi2 hi3 hi4 A5 NF c5 _ hc1 hc2 W hP hL rh
        rw [hz0] at HHK
        replace HHK := Lib.hid HHK
        have HOA := fun W (hP : Recs W 2 (some ⟨gP, 0, none⟩) n1 P) (hL : Recs W 2 B1 m1 L) (rh : Recs W 1 A5 NF fun k _ => ix zs k) => impl_OriginalArea (some ⟨gP, 0, none⟩) n1 c1 P B1 m1 d1 L hi1 hi2 hi3 hi4 A5 NF c5 _ hc1 hc2 W hP hL rh
        rw [hor, Int.sub_zero] at HOA
        replace HOA := Lib.hid HOA
        clear hor hz0
        go_wp2_with fail
        refine (HHK.out _ hP hL rh).mono ?_
        rintro e w7 ⟨rfl, x7⟩
        replace hP := hP.ext x7
        replace hL := hL.ext x7
        replace hB := hB.ext x7
        replace hmA := hmA.ext x7
        replace rh := rh.ext x7
        replace k0 := x7.cell k0
        replace k1 := x7.cell k1
        replace X := X.trans x7
        clear x7
        go_wp2_with fail
        refine (HOA.out _ hP hL rh).mono ?_
        rintro e w8 ⟨rfl, x8⟩
        replace hP := hP.ext x8
        replace hL := hL.ext x8
        replace hB := hB.ext x8
        replace hmA := hmA.ext x8
        replace rh := rh.ext x8
        replace k0 := x8.cell k0
        replace k1 := x8.cell k1
        replace X := X.trans x8
        clear x8
        go_wp2_with fail
        refine (impl_OldestFaces (some ⟨gP, 0, none⟩) n1 c1 P B1 m1 d1 L hi1 hi2 hi3 hi4 A5 NF c5 _ hc1 hc2 _ hP hL rh).mono ?_
        rintro e w9 ⟨Ao, co, rfl, _, _, _, x9⟩
        replace hP := hP.ext x9
        replace hL := hL.ext x9
        replace hB := hB.ext x9
        replace hmA := hmA.ext x9
        replace rh := rh.ext x9
        replace k0 := x9.cell k0
        replace k1 := x9.cell k1
        replace X := X.trans x9
        clear x9
        generalize (oldV n1 P m1 L NF (fun i _ => ix zs i)).length = lo at *
        clear HHK HOA rh
        go_wp2
        go_loopw [5, 9, 10, 11, 12, 13, 14] (fun s5 s9 i s11 s12 s13 s14 wr => ∃ (j : Nat) (A5 : Option Addr) (c5 : Nat) (zs : List Int) (dn : Int), j ≤ 8 ∧ s5 = .slice A5 NF c5 ∧ s9 = .int .i64 dn ∧ i = .int .i64 j ∧ NF ≤ c5 ∧ c5 ≤ 9223372036854775807 ∧ Hist n1 P m1 L sh j zs dn ∧ (0 ≤ dn ∧ dn ≤ 16000 * j) ∧ Mine w4.heap.size wr 3 (.slice A5 NF c5) NF zs ∧ Ext w9 wr) (fun _ _ i _ _ _ _ _ => 8 - (intOf i).toNat)
        case atStart => exact ⟨0, A5, c5, zs, 0, by omega, rfl, rfl, rfl, hc1, hc2, HH0.out, by omega, hmA, Ext.refl _⟩
        case round =>
          clear hmA HH0 hc1 hc2
          obtain ⟨j, A5, c5, zs, dn, hj, rfl, rfl, rfl, hc1, hc2, hH, hdn, hmA, Y⟩ := hrel
          have hPj := hP.ext Y
          have hLj := hL.ext Y
          have hBj := hB.ext Y
          have k0j := Y.cell k0
          have k1j := Y.cell k1
          have hlen : zs.length = NF := by rw [HNF.out]; exact hH.1
          by_cases hlt : j < 8
          · clear k0 k1 hP hL
            have hsT0 : 0 ≤ sh * T := Int.mul_nonneg hs0 hT0
            have hsT1 : sh * T ≤ 1600000 := Int.le_trans (Int.mul_le_mul hs1 hT1 hT0 (by omega)) (by omega)
            have hfa := HFA.out
            go_wp2_with fail
            refine (HAT.out ((j : Int) + 1) (by omega) (by omega) _ hBj).mono ?_
            rintro e wa ⟨z, rfl, hz0, hz1, xa⟩
            replace hPj := hPj.ext xa
            replace hLj := hLj.ext xa
            replace hmA := hmA.ext xa
            replace k0j := xa.cell k0j
            replace k1j := xa.cell k1j
            replace Y := Y.trans xa
            clear xa hBj
            have hf0 : 0 ≤ z % (NF : Int) := Int.emod_nonneg _ hNZ
            have hf1 : z % (NF : Int) < NF := Int.emod_lt_of_pos _ (by omega)
            go_wp2_with fail
            generalize z % (NF : Int) = fi at *
            obtain ⟨fk, rfl⟩ : ∃ fk : Nat, fi = fk := ⟨fi.toNat, by omega⟩
            have hfk : fk < NF := by omega
            clear hz0 hz1 hf0
            have hfar := hfa fk
            clear hfa
            obtain ⟨hr1, hr2, hr3⟩ := HSP.out sh ⟨hs0, hs1⟩ j hlt zs dn hH fk (by rw [← HNF.out]; exact hfk)
            rw [hlen] at hr1 hr2 hr3
            have HHH := Lib.hid hH
            clear hH
            have hs45 : w4.heap.size ≤ wa.heap.size := by
              obtain ⟨g5, hg5⟩ := hmA.some_ (by omega)
              have := hmA.lt g5 (by rw [hg5]; rfl)
              omega
            have rh := hmA.recs
            have hA5 : A5 = none → NF = 0 ∧ c5 = 0 := none_cap hmA
            have e1 : (0 : Int) ≤ (fk : Int) := by omega
            have HMR := fun W (hP : Recs W 2 (some ⟨gP, 0, none⟩) n1 P) (hL : Recs W 2 B1 m1 L) (rh : Recs W 1 A5 NF fun k _ => ix zs k) => impl_MayReplace (some ⟨gP, 0, none⟩) n1 c1 P B1 m1 d1 L hi1 hi2 hi3 hi4 A5 NF c5 _ hc1 hc2 (fk : Int) sh (by omega) (by omega) W hP hL rh
            have HRP := fun W (hP : Recs W 2 (some ⟨gP, 0, none⟩) n1 P) (hL : Recs W 2 B1 m1 L) (rh : Recs W 1 A5 NF fun k _ => ix zs k) => impl_ReplaceFace (some ⟨gP, 0, none⟩) n1 c1 P B1 m1 d1 L hi1 hi2 hi3 hi4 A5 NF c5 _ hc1 hc2 (fk : Int) (1900 + j) sh (by omega) (by omega) (by omega) hA5 (by omega) W hP hL rh
            rw [hr1] at HRP
            have HR2 := Lib.hid hr2
            have HR3 := Lib.hid hr3
            clear hr1 hr2 hr3
            cases hmay : mayB n1 P m1 L NF (fun k _ => ix zs k) (fk : Int) sh
            · have hmf := hmay
              rw [hmay] at HMR HRP
              replace HMR := Lib.hid HMR
              replace HRP := Lib.hid HRP
              clear hmay
              go_wp2_with fail
              refine (HMR.out _ hPj hLj rh).mono ?_
              rintro e wb ⟨rfl, xb⟩
              replace hPj := hPj.ext xb
              replace hLj := hLj.ext xb
              replace rh := rh.ext xb
              replace k0j := xb.cell k0j
              replace k1j := xb.cell k1j
              replace Y := Y.trans xb
              have hzb := xb.size
              clear xb
              go_wp2_with fail
              refine (HRP.out _ hPj hLj rh).mono ?_
              rintro e wc ⟨A6, c6, rfl, i6, j6, m6, xc⟩
              replace hPj := hPj.ext xc
              replace hLj := hLj.ext xc
              replace rh := rh.ext xc
              replace k0j := xc.cell k0j
              replace k1j := xc.cell k1j
              replace Y := Y.trans xc
              have hzc := xc.size
              clear xc
              obtain ⟨q1, hq⟩ := HR2.out hmf
              have HQ := Lib.hid hq
              clear hmf hq HR2 HR3
              rw [q1] at m6
              replace m6 := m6.more (base' := w4.heap.size) (by omega)
              have r6 := m6.recs
              have hl6 : (zs).length = NF := by simp [hlen]
              have hor := HQ.out.2.2.2.2.1
              have hge := HQ.out.2.2.2.2.2
              rw [hl6, ← HTV.out] at hor hge
              rw [hor] at hge
              have hge2 : ¬ 100 * (T - (dn)) < sh * T := by omega
              clear hge
              have HOA := fun W (hP : Recs W 2 (some ⟨gP, 0, none⟩) n1 P) (hL : Recs W 2 B1 m1 L) (rh : Recs W 1 A6 NF fun k _ => ix (zs) k) => impl_OriginalArea (some ⟨gP, 0, none⟩) n1 c1 P B1 m1 d1 L hi1 hi2 hi3 hi4 A6 NF c6 _ i6 j6 W hP hL rh
              rw [hor] at HOA
              replace HOA := Lib.hid HOA
              clear hor
              go_wp2_with fail
              refine (HOA.out _ hPj hLj r6).mono ?_
              rintro e wd ⟨rfl, xd⟩
              replace hPj := hPj.ext xd
              replace hLj := hLj.ext xd
              replace r6 := r6.ext xd
              replace m6 := m6.ext xd
              replace k0j := xd.cell k0j
              replace k1j := xd.cell k1j
              replace Y := Y.trans xd
              have hzd := xd.size
              clear xd
              go_wp2_with fail
              refine (HOA.out _ hPj hLj r6).mono ?_
              rintro e we ⟨rfl, xe⟩
              replace r6 := r6.ext xe
              replace m6 := m6.ext xe
              replace Y := Y.trans xe
              have hze := xe.size
              clear xe
              clear HOA hPj hLj r6 k0j k1j
              go_wp2
              go_roundw
              case rel => exact ⟨j + 1, A6, c6, zs, dn, by omega, rfl, rfl, by go_num, i6, j6, HQ.out, ⟨HQ.out.2.2.2.1, by omega⟩, m6, Y⟩
              case measure => simp [intOf]; omega
            · have hmf := hmay
              rw [hmay] at HMR HRP
              replace HMR := Lib.hid HMR
              replace HRP := Lib.hid HRP
              clear hmay
              go_wp2_with fail
              refine (HMR.out _ hPj hLj rh).mono ?_
              rintro e wb ⟨rfl, xb⟩
              replace hPj := hPj.ext xb
              replace hLj := hLj.ext xb
              replace rh := rh.ext xb
              replace k0j := xb.cell k0j
              replace k1j := xb.cell k1j
              replace Y := Y.trans xb
              have hzb := xb.size
              clear xb
              go_wp2_with fail
              refine (HRP.out _ hPj hLj rh).mono ?_
              rintro e wc ⟨A6, c6, rfl, i6, j6, m6, xc⟩
              replace hPj := hPj.ext xc
              replace hLj := hLj.ext xc
              replace rh := rh.ext xc
              replace k0j := xc.cell k0j
              replace k1j := xc.cell k1j
              replace Y := Y.trans xc
              have hzc := xc.size
              clear xc
              obtain ⟨q1, q2, hqa, hqb⟩ := HR3.out hmf
              have HQA := Lib.hid hqa
              have HQB := Lib.hid hqb
              clear hmf hqa hqb HR2 HR3
              rw [q1] at m6
              replace m6 := m6.more (base' := w4.heap.size) (by omega)
              obtain ⟨g6, rfl⟩ := m6.some_ (by omega)
              have r6 := m6.recs
              obtain ⟨b6, o6, e6, _, v6⟩ := r6.at1 hfk
              injection e6 with e6
              injection e6 with ea eb
              subst ea eb
              rw [Nat.zero_add, q2] at v6
              obtain ⟨b5, o5, rfl, _, v5⟩ := rh.at1 hfk
              have e2 : (fk : Int) < (NF : Int) := by omega
              clear q1 q2 rh HMR HRP hA5
              by_cases hz : ix zs fk = 0
              · have HQ := Lib.hid (HQA.out hz)
                rw [hz] at v5
                clear hz HQA HQB
                go_wp2_with fail
                refine (HAR.out (fk : Int) (by omega) _ hPj hLj).mono ?_
                rintro e wf ⟨rfl, xf⟩
                replace hPj := hPj.ext xf
                replace hLj := hLj.ext xf
                replace r6 := r6.ext xf
                replace m6 := m6.ext xf
                replace k0j := xf.cell k0j
                replace k1j := xf.cell k1j
                replace Y := Y.trans xf
                have hzf := xf.size
                clear xf
                generalize areaV n1 P m1 L (fk : Int) = ar at *
                clear v5 v6
                have hl6 : (zs.set fk (1900 + (j : Int))).length = NF := by simp [hlen]
                have hor := HQ.out.2.2.2.2.1
                have hge := HQ.out.2.2.2.2.2
                rw [hl6, ← HTV.out] at hor hge
                rw [hor] at hge
                have hge2 : ¬ 100 * (T - (dn + ar)) < sh * T := by omega
                clear hge
                have HOA := fun W (hP : Recs W 2 (some ⟨gP, 0, none⟩) n1 P) (hL : Recs W 2 B1 m1 L) (rh : Recs W 1 (some ⟨g6, 0, none⟩) NF fun k _ => ix (zs.set fk (1900 + (j : Int))) k) => impl_OriginalArea (some ⟨gP, 0, none⟩) n1 c1 P B1 m1 d1 L hi1 hi2 hi3 hi4 (some ⟨g6, 0, none⟩) NF c6 _ i6 j6 W hP hL rh
                rw [hor] at HOA
                replace HOA := Lib.hid HOA
                clear hor
                go_wp2_with fail
                refine (HOA.out _ hPj hLj r6).mono ?_
                rintro e wd ⟨rfl, xd⟩
                replace hPj := hPj.ext xd
                replace hLj := hLj.ext xd
                replace r6 := r6.ext xd
                replace m6 := m6.ext xd
                replace k0j := xd.cell k0j
                replace k1j := xd.cell k1j
                replace Y := Y.trans xd
                have hzd := xd.size
                clear xd
                go_wp2_with fail
                refine (HOA.out _ hPj hLj r6).mono ?_
                rintro e we ⟨rfl, xe⟩
                replace r6 := r6.ext xe
                replace m6 := m6.ext xe
                replace Y := Y.trans xe
                have hze := xe.size
                clear xe
                clear HOA hPj hLj r6 k0j k1j
                go_wp2
                go_roundw
                case rel => exact ⟨j + 1, (some ⟨g6, 0, none⟩), c6, zs.set fk (1900 + (j : Int)), dn + ar, by omega, rfl, rfl, by go_num, i6, j6, HQ.out, ⟨HQ.out.2.2.2.1, by omega⟩, m6, Y⟩
                case measure => simp [intOf]; omega
              · have HQ := Lib.hid (HQB.out hz)
                have hzb : (ix zs fk == 0) = false := beq_eq_false_iff_ne.2 hz
                clear HQA HQB
                have hl6 : (zs.set fk (1900 + (j : Int))).length = NF := by simp [hlen]
                have hor := HQ.out.2.2.2.2.1
                have hge := HQ.out.2.2.2.2.2
                rw [hl6, ← HTV.out] at hor hge
                rw [hor] at hge
                have hge2 : ¬ 100 * (T - (dn)) < sh * T := by omega
                clear hge
                have HOA := fun W (hP : Recs W 2 (some ⟨gP, 0, none⟩) n1 P) (hL : Recs W 2 B1 m1 L) (rh : Recs W 1 (some ⟨g6, 0, none⟩) NF fun k _ => ix (zs.set fk (1900 + (j : Int))) k) => impl_OriginalArea (some ⟨gP, 0, none⟩) n1 c1 P B1 m1 d1 L hi1 hi2 hi3 hi4 (some ⟨g6, 0, none⟩) NF c6 _ i6 j6 W hP hL rh
                rw [hor] at HOA
                replace HOA := Lib.hid HOA
                clear hor
                go_wp2_with fail
                refine (HOA.out _ hPj hLj r6).mono ?_
                rintro e wd ⟨rfl, xd⟩
                replace hPj := hPj.ext xd
                replace hLj := hLj.ext xd
                replace r6 := r6.ext xd
                replace m6 := m6.ext xd
                replace k0j := xd.cell k0j
                replace k1j := xd.cell k1j
                replace Y := Y.trans xd
                have hzd := xd.size
                clear xd
                go_wp2_with fail
                refine (HOA.out _ hPj hLj r6).mono ?_
                rintro e we ⟨rfl, xe⟩
                replace r6 := r6.ext xe
                replace m6 := m6.ext xe
                replace Y := Y.trans xe
                have hze := xe.size
                clear xe
                clear HOA hPj hLj r6 k0j k1j
                go_wp2
                go_roundw
                case rel => exact ⟨j + 1, (some ⟨g6, 0, none⟩), c6, zs.set fk (1900 + (j : Int)), dn, by omega, rfl, rfl, by go_num, i6, j6, HQ.out, ⟨HQ.out.2.2.2.1, by omega⟩, m6, Y⟩
                case measure => simp [intOf]; omega
          · obtain rfl : j = 8 := by omega
            obtain ⟨g5, rfl⟩ := hmA.some_ (by omega)
            have rh := hmA.recs
            have hk0 := hH.2.2.1 ko oko
            have HCE := Lib.hid (fun W (Z : Ext wr W) k (hk : k < NF) => (by
              obtain ⟨b5, o5, e5, _, v5⟩ := rh.at1 hk
              injection e5 with e5
              injection e5 with ea eb
              subst ea eb
              rw [Nat.zero_add] at v5
              exact Z.cell v5 : W.cell? ⟨g5, k, none⟩ = some (.int .i64 (ix zs k))))
            have HHAS := Lib.hid (fun k (hk : k < NF) => has_pick (n := NF) (k := k) (g := fun j => decide (0 < ix zs j)) hk)
            have HMY := fun W (hP : Recs W 2 (some ⟨gP, 0, none⟩) n1 P) (hL : Recs W 2 B1 m1 L) (rh : Recs W 1 (some ⟨g5, 0, none⟩) NF fun k _ => ix zs k) => impl_MayReplace (some ⟨gP, 0, none⟩) n1 c1 P B1 m1 d1 L hi1 hi2 hi3 hi4 (some ⟨g5, 0, none⟩) NF c5 _ hc1 hc2 (outerV n1 P m1 L) 0 (by rw [oko]; omega) (by omega) W hP hL rh
            simp only [HMO.out] at HMY
            rw [oko] at HMY
            replace HMY := Lib.hid HMY
            clear hH hlen hBj HSP HFA HAR HTA HAT HMO
            go_wp2_with fail
            refine (impl_ReplacedAfter (some ⟨g5, 0, none⟩) NF c5 _ 0 (by omega) _ rh).mono ?_
            rintro e wg ⟨Al, cl, rfl, il, jl, ml, xg⟩
            have rl := ml.recs
            have Yg := Y.trans xg
            clear ml
            generalize (pick NF fun j => decide (0 < ix zs j)) = ls at *
            go_wp2
            go_loopw [16] (fun i wr2 => ∃ k : Nat, k ≤ NF ∧ i = .int .i64 k ∧ Ext wg wr2) (fun i _ => NF - (intOf i).toNat)
            case atStart => exact ⟨0, Nat.zero_le _, rfl, Ext.refl _⟩
            case round =>
              obtain ⟨k, hk, rfl, V⟩ := hrel
              have rlj := rl.ext V
              have hPk := hPj.ext (xg.trans V)
              have hLk := hLj.ext (xg.trans V)
              have rhk := rh.ext (xg.trans V)
              have k0k := (xg.trans V).cell k0j
              have k1k := (xg.trans V).cell k1j
              by_cases hlk : k < NF
              · have vk := HCE.out _ (xg.trans V) k hlk
                have HHk := HHAS.out k hlk
                have HHA := fun W (hW : Recs W 1 Al ls.length fun k _ => ix ls k) => has_any Al ls.length cl _ (k : Int) (by omega) W hW
                rw [HHk] at HHA
                clear HHk
                have f1 : (0 : Int) ≤ (k : Int) := by omega
                have f2 : (k : Int) < (NF : Int) := by omega
                generalize ix zs k = zk at *
                by_cases hzk : 0 < zk
                · have hdz : decide (0 < zk) = true := decide_eq_true hzk
                  rw [hdz] at HHA
                  replace HHA := Lib.hid HHA
                  go_wp2_with fail
                  first | refine wp_region_gr2 (by kernel_rfl) (by kernel_rfl) ?_ | refine wp_region_gr (by kernel_rfl) (by kernel_rfl) ?_
                  repeat (go_big_quiet_step ((go_at_call 16; exact gr_of (HHA.out _ (rlj.ext (Ext.gr _ _))))))
                  refine wpQuiet_nil ?_
                  intro _ hw'
                  obtain ⟨gq, hw''⟩ := hw'
                  subst hw''
                  have Z := V.trans (Ext.gr _ gq)
                  clear V rlj hPk hLk rhk k0k k1k vk HHA
                  go_wp2
                  go_roundw
                  case rel => exact ⟨k + 1, by omega, by go_num, Z⟩
                  case measure => simp [intOf]; omega
                · have hdz : decide (0 < zk) = false := decide_eq_false hzk
                  rw [hdz] at HHA
                  replace HHA := Lib.hid HHA
                  go_wp2_with fail
                  first | refine wp_region_gr2 (by kernel_rfl) (by kernel_rfl) ?_ | refine wp_region_gr (by kernel_rfl) (by kernel_rfl) ?_
                  repeat (go_big_quiet_step ((go_at_call 16; exact gr_of (HHA.out _ (rlj.ext (Ext.gr _ _))))))
                  refine wpQuiet_nil ?_
                  intro _ hw'
                  obtain ⟨gq, hw''⟩ := hw'
                  subst hw''
                  have Z := V.trans (Ext.gr _ gq)
                  clear V rlj hPk hLk rhk k0k k1k vk HHA
                  go_wp2
                  go_roundw
                  case rel => exact ⟨k + 1, by omega, by go_num, Z⟩
                  case measure => simp [intOf]; omega
              · have vk := HCE.out _ (xg.trans V) ko hko
                rw [hk0] at vk
                have f1 : (0 : Int) ≤ (ko : Int) := by omega
                have f2 : (ko : Int) < (NF : Int) := by omega
                have HOQ := fun W hP hL => HOF.out W hP hL
                rw [oko] at HOQ
                replace HOQ := Lib.hid HOQ
                go_wp2_with fail
                first | refine wp_region_gr2 (by kernel_rfl) (by kernel_rfl) ?_ | refine wp_region_gr (by kernel_rfl) (by kernel_rfl) ?_
                repeat (go_big_quiet_step ((first | (go_at_call 32; exact gr_of (HOQ.out _ (hPk.ext (Ext.gr _ _)) (hLk.ext (Ext.gr _ _)))) | (go_at_call 44; exact gr_of (HMY.out _ (hPk.ext (Ext.gr _ _)) (hLk.ext (Ext.gr _ _)) (rhk.ext (Ext.gr _ _)))))))
                refine wpQuiet_nil ?_
                intro _ hw'
                obtain ⟨gq, hw''⟩ := hw'
                subst hw''
                go_wp2
                go_ret
                exact ⟨rfl, (X.trans Yg).trans (V.trans (Ext.gr _ gq))⟩
theorem own : ownKnob Try.prog.godebug = none := by kernel_rfl
theorem laid : laidOutB Try.prog = true := fLaid
set_option maxRecDepth 100000 in
theorem lifted (os : Os) (started : os.Started) (H : Type) (enc : TypeId × Value → H) :
    ReturnsInHanded {} Try.checked os 7 .any (Rows.fnRestoredSpec.pre6 enc Try.prog Try.f7 Rows.fnRestoredRow.domain false) (Rows.fnRestoredSpec.post enc Try.prog Try.f7 false true false false) := by
  refine returnsInHanded_of_change (C := Try.checked) own started (by kernel_rfl) Try.func7
    (ChangeSpec.witness6 (enc := enc) (C := Try.checked) false ⟨#[], #[.slice none 0 0], []⟩ 8 (by kernel_rfl) (by kernel_rfl) (by kernel_rfl) (by kernel_rfl)) ?_
  intro W base args ds gs before hval0 hW hcnd _
  have hval : ∀ (j : Nat) t v, Try.f7.params[j]? = some t → args[j]? = some v → Value.okWide Try.prog W .any base t v := hval0
  have hW' := hW
  obtain ⟨p, q, hA0, hV, rfl, hfz, hnd⟩ := hW
  have hA : DataW.TrodAll enc Try.prog W 0 (fun _ => true) true Try.f7.params.toList args.toList ds p := hA0
  rw [Try.params7] at hA hval
  obtain ⟨v0, vs0, d0, ds0, p0, q0, hargs, rfl, rfl, h0, r0⟩ := trodAll_cons hA
  obtain ⟨rfl, rfl, rfl⟩ := trodAll_nil r0
  obtain rfl : args = #[v0] := by cases args; simp_all
  obtain ⟨rfl, rfl⟩ := trodVars_none hV
  obtain ⟨A0, n0, c0, f0, rfl, i0, j0, k0⟩ := openB Try.underlying22 Try.underlying5 (by kernel_rfl) (hval 0 22 v0 rfl rfl) h0
  clear hA0 hval0
  refine (walk A0 n0 c0 f0 i0 j0 W k0).mono fun e W' ⟨he, hg⟩ => ?_
  subst he
  exact ⟨_, rfl, post_law (tb := 4) laid (by kernel_rfl) (by kernel_rfl) Try.underlying4 hW' rfl rfl rfl rfl hg⟩
set_option maxHeartbeats 4000000 in
set_option maxRecDepth 100000 in
theorem facts : joinedFacts Try.checked.prog 7 Try.f7 Rows.fnRestoredSpec Rows.fnRestoredRow = true := by
  unfold joinedFacts
  repeat' (with_reducible refine and_intro ?_ ?_)
  all_goals first | with_reducible exact fMayEnter | (with_reducible refine fLifted _ ?_; rfl) | (with_reducible refine fMake _ ?_; rfl) | (with_reducible exact fLaid) | (as_aux_lemma => kernel_rfl)
theorem over : Rows.fnRestoredRow.holds Try.pinned (OpenSpec.ofChange Rows.fnRestoredSpec) :=
  OpenClaim.holds_of_wide 7 Try.f7 rfl rfl rfl rfl rfl rfl rfl ⟨rfl, rfl, rfl, rfl, rfl⟩ rfl rfl rfl rfl rfl (by kernel_rfl) Try.func7 facts
    (of_decide_eq_true (by kernel_rfl)) (by unfold Func.isWrapper; first | (rw [if_pos (by decide +kernel)]; kernel_rfl) | (rw [if_neg (by decide +kernel)]; exact ⟨rfl, rfl⟩))
    (fun os started H enc _ => lifted os started H enc)
theorem proved : Rows.FnRestoredSaid :=
  over
#print axioms proved
end Go.Proofs.Ytgmhmlhdiklaaaa.fnRestored
