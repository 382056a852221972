/-
  The law FnSun of the given program holds: for every input the Go function returns true and each argument reads afterwards as it read before. No conditions.
-/
import Derived.Test.YtgmhmlhdiklaaaaRows
import Derived.Test.YtgmhmlhdiklaaaaFacts
import Derived.Test.YtgmhmlhdiklaaaaSunL
import Derived.Test.YtgmhmlhdiklaaaaWdJ
import Derived.Test.YtgmhmlhdiklaaaaWdI
import Derived.Test.YtgmhmlhdiklaaaaWalkC
import Derived.Test.YtgmhmlhdiklaaaaDeep
import Derived.Test.YtgmhmlhdiklaaaaPanM
import Derived.Test.YtgmhmlhdiklaaaaSmaM
import Derived.Test.YtgmhmlhdiklaaaaHasM
import Derived.Test.YtgmhmlhdiklaaaaAreM
import Derived.Test.YtgmhmlhdiklaaaaFacM
namespace Go.Proofs.Ytgmhmlhdiklaaaa.fnSun
open Go.ChangeShapes Go.WideShapes Go.ChangeAt Go.RowKit
set_option linter.unusedVariables false

set_option maxHeartbeats 16000000 in
set_option maxRecDepth 100000 in
theorem walk (A : Option Addr) (n c : Nat) (f : Nat → Int) (hnc : n ≤ c) (hcm : c ≤ 9223372036854775807) (w : World) (hr : BRecs w A n f) :
    Calls Try.prog 4 #[.slice A n c] w fun e w' => e = .returned (.bool true) ∧ Ext w w' := by
  by_cases hbig : 1048576 < n
  · have hd : decide (1048576 < n) = true := by simpa using hbig
    go_enter Try.func4, Try.ntmps4
    go_wp2_with fail
    refine (big_any A n c (by omega) w).mono ?_
    rintro e w1 ⟨rfl, x1⟩
    go_wp2
    go_ret
    exact ⟨rfl, x1⟩
  · have hd : decide (1048576 < n) = false := by simpa using hbig
    have hn20 : n ≤ 1048576 := by omega
    go_enter Try.func4, Try.ntmps4
    go_wp2_with fail
    refine (big_any A n c (by omega) w).mono ?_
    rintro e w1 ⟨rfl, x1⟩
    clear hd hbig
    go_wp2_with fail
    refine (DrawWhole_any A n c f hnc hcm hn20 _ (hr.ext x1)).mono ?_
    rintro e w2 ⟨A1, n1, c1, zs, B1, m1, d1, ys, rfl, ho, hw, x2⟩
    have hwin := (wholeB_get hw).1
    obtain ⟨hsz, hNo, _⟩ := winB_get hwin
    obtain ⟨gP, rfl⟩ := ho.2.2.2.2.1.some_ (by omega)
    have hi1 := ho.1
    have hi2 := ho.2.1
    have hi3 := ho.2.2.1
    have hi4 := ho.2.2.2.1
    have X := x1.trans x2
    have hB := hr.ext X
    have hP := ho.recsP
    have hL := ho.recsL
    generalize FW zs = P at *
    generalize FW ys = L at *
    clear ho hr x1 x2
    have x3 : Ext w2 (w2.alloc (.cells #[.slice (some ⟨gP, 0, none⟩) n1 c1, .slice B1 m1 d1] 27)) := (Ext.refl _).alloc _
    have k0 : (w2.alloc (.cells #[.slice (some ⟨gP, 0, none⟩) n1 c1, .slice B1 m1 d1] 27)).cell? ⟨w2.heap.size, 0, none⟩ = some (.slice (some ⟨gP, 0, none⟩) n1 c1) := by simp [go_sem]
    have k1 : (w2.alloc (.cells #[.slice (some ⟨gP, 0, none⟩) n1 c1, .slice B1 m1 d1] 27)).cell? ⟨w2.heap.size, 1, none⟩ = some (.slice B1 m1 d1) := by simp [go_sem]
    replace X := X.trans x3
    replace hB := hB.ext x3
    replace hP := hP.ext x3
    replace hL := hL.ext x3
    clear x3
    go_wp2_with fail
    generalize w2.alloc (.cells #[.slice (some ⟨gP, 0, none⟩) n1 c1, .slice B1 m1 d1] 27) = w3 at *
    generalize w2.heap.size = t at *
    have hFL := faces_len (n := n1) (m := m1) (P := P) (L := L)
    have hko := faces_some hw
    refine (DrawSun_any A n c f hnc hcm hn20 _ hB).mono ?_
    rintro e w4 ⟨a, b, u, rfl, ha, hb, hu, x4⟩
    replace hP := hP.ext x4
    replace hL := hL.ext x4
    replace hB := hB.ext x4
    replace k0 := x4.cell k0
    replace k1 := x4.cell k1
    replace X := X.trans x4
    clear x4
    have x5 : Ext w4 (w4.alloc (.cells #[.int .i64 a, .int .i64 b, .int .i64 u] 42)) := (Ext.refl _).alloc _
    have s0 : (w4.alloc (.cells #[.int .i64 a, .int .i64 b, .int .i64 u] 42)).cell? ⟨w4.heap.size, 0, none⟩ = some (.int .i64 a) := by simp [go_sem]
    have s1 : (w4.alloc (.cells #[.int .i64 a, .int .i64 b, .int .i64 u] 42)).cell? ⟨w4.heap.size, 1, none⟩ = some (.int .i64 b) := by simp [go_sem]
    have s2 : (w4.alloc (.cells #[.int .i64 a, .int .i64 b, .int .i64 u] 42)).cell? ⟨w4.heap.size, 2, none⟩ = some (.int .i64 u) := by simp [go_sem]
    replace hP := hP.ext x5
    replace hL := hL.ext x5
    replace hB := hB.ext x5
    replace k0 := x5.cell k0
    replace k1 := x5.cell k1
    replace X := X.trans x5
    clear x5
    go_wp2_with fail
    generalize w4.alloc (.cells #[.int .i64 a, .int .i64 b, .int .i64 u] 42) = w5 at *
    generalize w4.heap.size = ts at *
    refine (at_any A n c f 0 hn20 (by omega) (by omega) _ hB).mono ?_
    rintro e w6 ⟨z, rfl, hz0, hz1, x6⟩
    replace hP := hP.ext x6
    replace hL := hL.ext x6
    replace hB := hB.ext x6
    replace k0 := x6.cell k0
    replace k1 := x6.cell k1
    replace s0 := x6.cell s0
    replace s1 := x6.cell s1
    replace s2 := x6.cell s2
    replace X := X.trans x6
    clear x6
    have HFS := Lib.hid (fun W (hP : Recs W 2 (some ⟨gP, 0, none⟩) n1 P) (hL : Recs W 2 B1 m1 L) => spec_FacesOf (some ⟨gP, 0, none⟩) n1 c1 P B1 m1 d1 L hi1 hi2 hi3 hi4 W hP hL)
    go_wp2_with fail
    refine (HFS.out _ hP hL).mono ?_
    rintro e w7 ⟨Af, cf, rfl, _, _, _, x7⟩
    replace hP := hP.ext x7
    replace hL := hL.ext x7
    replace hB := hB.ext x7
    replace k0 := x7.cell k0
    replace k1 := x7.cell k1
    replace s0 := x7.cell s0
    replace s1 := x7.cell s1
    replace s2 := x7.cell s2
    replace X := X.trans x7
    clear x7 HFS
    obtain ⟨NF, hNF⟩ : ∃ NF, NF = (facesV n1 P m1 L).length := ⟨_, rfl⟩
    rw [← hNF] at hko hFL
    rw [← hNF]
    have HNF := Lib.hid hNF
    clear hNF
    have hNZ : ¬ (NF : Int) = 0 := by omega
    go_wp2_with fail
    refine (at_any A n c f 1 hn20 (by omega) (by omega) _ hB).mono ?_
    rintro e w8 ⟨z1, rfl, hz10, hz11, x8⟩
    replace hP := hP.ext x8
    replace hL := hL.ext x8
    replace hB := hB.ext x8
    replace k0 := x8.cell k0
    replace k1 := x8.cell k1
    replace s0 := x8.cell s0
    replace s1 := x8.cell s1
    replace s2 := x8.cell s2
    replace X := X.trans x8
    clear x8
    have hf0 : 0 ≤ z1 % (NF : Int) := Int.emod_nonneg _ hNZ
    have hf1 : z1 % (NF : Int) < NF := Int.emod_lt_of_pos _ (by omega)
    go_wp2_with fail
    generalize z1 % (NF : Int) = fi at *
    obtain ⟨fk, rfl⟩ : ∃ fk : Nat, fi = fk := ⟨fi.toNat, by omega⟩
    have hfk : fk < NF := by omega
    clear hf0 hf1 hz10 hz11
    have hfk2 : fk < (facesV n1 P m1 L).length := by rw [← HNF.out]; exact hfk
    have hz01 : 0 ≤ z ∧ z ≤ 255 := ⟨hz0, hz1⟩
    obtain ⟨AR, dp, oS, oA, hAR, hAV, hARb, oD, hdp, hsum, hmost⟩ := sun_law hw hfk2 ha hb hu hz01
    have hpl := paneN_len (n := n1) (m := m1) (P := P) (L := L) (fk : Int)
    have HPN := Lib.hid (fun j (hj : j < (paneN n1 P m1 L (fk : Int)).length) => (paneN_lt hj).2)
    have HSR := Lib.hid (spotS_rng hNo ha hb hu hz01 (l := paneN n1 P m1 L (fk : Int)) (fun j hj => (paneN_lt hj).2))
    have HSM := Lib.hid hsum
    have HMO := Lib.hid hmost
    have HNB := Lib.hid hNo.1
    have HBX := Lib.hid (fun i (hi : i < n1) => sp_box hNo ha hb hu hz01 hi)
    have HSP := Lib.hid (fun i (hi : i < n1) W => (by exact impl_SpotOf_yes (P i 0) (P i 1) z a b u (hNo.1 i hi) (sun_ok ha hb hu) (inB_yes (by omega)) W : Calls Try.prog 22 #[.agg #[.int .i64 (P i 0), .int .i64 (P i 1)], .int .i64 z, .agg #[.int .i64 a, .int .i64 b, .int .i64 u]] W fun e w' => e = .returned (.tuple #[.int .i64 (spX P a b z i), .int .i64 (spY P u z i), .int .i64 b, .bool true]) ∧ Ext W w'))
    have HRM := Lib.hid (fun r (hr : 0 ≤ r ∧ r < 1000) i (hi : i < n1) W => (by have q := impl_IsInRoom (P i 0) (P i 1) z a b u r W; rw [room_law hNo ha hb hu hz01 hr hi] at q; exact q : Calls Try.prog 25 #[.agg #[.int .i64 (P i 0), .int .i64 (P i 1)], .int .i64 z, .agg #[.int .i64 a, .int .i64 b, .int .i64 u], .int .i64 r] W fun e w' => e = .returned (.bool (decide (spY P u z i ≤ r * b))) ∧ Ext W w'))
    have HSA := Lib.hid (fun W (hP : Recs W 2 (some ⟨gP, 0, none⟩) n1 P) (hL : Recs W 2 B1 m1 L) => (by have q := impl_SpotArea (some ⟨gP, 0, none⟩) n1 c1 P B1 m1 d1 L hi1 hi2 hi3 hi4 (fk : Int) z a b u (by omega) (by omega) W hP hL; rw [oS] at q; exact q : Calls Try.prog 20 #[.agg #[.slice (some ⟨gP, 0, none⟩) n1 c1, .slice B1 m1 d1], .int .i64 (fk : Int), .int .i64 z, .agg #[.int .i64 a, .int .i64 b, .int .i64 u]] W fun e w' => e = .returned (.tuple #[.int .i64 AR, .int .i64 b, .bool true]) ∧ Ext W w'))
    have HDP := Lib.hid (fun W (hP : Recs W 2 (some ⟨gP, 0, none⟩) n1 P) (hL : Recs W 2 B1 m1 L) => (by have q := impl_DeepestNode (some ⟨gP, 0, none⟩) n1 c1 P B1 m1 d1 L hi1 hi2 hi3 hi4 z a b u W hP hL; rw [oD] at q; exact q : Calls Try.prog 23 #[.agg #[.slice (some ⟨gP, 0, none⟩) n1 c1, .slice B1 m1 d1], .int .i64 z, .agg #[.int .i64 a, .int .i64 b, .int .i64 u]] W fun e w' => e = .returned (.int .i64 (dp : Int)) ∧ Ext W w'))
    have HAO := Lib.hid (fun W (hP : Recs W 2 (some ⟨gP, 0, none⟩) n1 P) (hL : Recs W 2 B1 m1 L) => spec_AreaOf (some ⟨gP, 0, none⟩) n1 c1 P B1 m1 d1 L hi1 hi2 hi3 hi4 (fk : Int) (by omega) W hP hL)
    have HSU := Lib.hid (fun W => (by have q := impl_SunOk a b u W; rw [sun_ok ha hb hu] at q; exact q : Calls Try.prog 26 #[.agg #[.int .i64 a, .int .i64 b, .int .i64 u]] W fun e w' => e = .returned (.bool true) ∧ Ext W w'))
    have HPA := Lib.hid (fun W (hP : Recs W 2 (some ⟨gP, 0, none⟩) n1 P) (hL : Recs W 2 B1 m1 L) => spec_PaneNodes_yes (some ⟨gP, 0, none⟩) n1 c1 P B1 m1 d1 L hi1 hi2 hi3 hi4 fk hfk2 W hP hL)
    clear oS oD hsum hmost hNo hfk2 hz0 hz1
    refine (HSA.out _ hP hL).mono ?_
    rintro e w9 ⟨rfl, x9⟩
    replace hP := hP.ext x9
    replace hL := hL.ext x9
    replace hB := hB.ext x9
    replace k0 := x9.cell k0
    replace k1 := x9.cell k1
    replace s0 := x9.cell s0
    replace s1 := x9.cell s1
    replace s2 := x9.cell s2
    replace X := X.trans x9
    clear x9
    go_wp2_with fail
    refine (HPA.out _ hP hL).mono ?_
    rintro e w10 ⟨Ap, cp, rfl, ip, jp, mp, x10⟩
    replace hP := hP.ext x10
    replace hL := hL.ext x10
    replace hB := hB.ext x10
    replace k0 := x10.cell k0
    replace k1 := x10.cell k1
    replace s0 := x10.cell s0
    replace s1 := x10.cell s1
    replace s2 := x10.cell s2
    replace X := X.trans x10
    clear x10
    have rp := mp.recs
    clear mp HSA HPA
    obtain ⟨pl, hpl2⟩ : ∃ pl, pl = paneN n1 P m1 L (fk : Int) := ⟨_, rfl⟩
    rw [← hpl2] at rp hpl HPN HSR HSM
    rw [← hpl2]
    clear hpl2
    obtain ⟨N, hN⟩ : ∃ N, N = pl.length := ⟨_, rfl⟩
    rw [← hN] at rp hpl HPN HSR HSM
    rw [← hN]
    have HNN := Lib.hid hN
    clear hN
    go_wp2
    go_loopw [12, 13, 14, 15, 16, 17, 18, 19, 20, 21] (fun s12 s13 _ _ _ _ _ _ _ _ wr => ∃ j : Nat, j ≤ N ∧ s12 = .int .i64 (spotS P a b u z pl j) ∧ s13 = .int .i64 j ∧ Ext w10 wr) (fun _ i _ _ _ _ _ _ _ _ _ => N - (intOf i).toNat)
    case atStart => exact ⟨0, Nat.zero_le _, rfl, rfl, Ext.refl _⟩
    case round =>
      obtain ⟨j, hj, rfl, rfl, Y⟩ := hrel
      have hPj := hP.ext Y
      have k0j := Y.cell k0
      have s0j := Y.cell s0
      have s1j := Y.cell s1
      have s2j := Y.cell s2
      have rpj := rp.ext Y
      by_cases hlt : j < N
      · obtain ⟨i2, hi2⟩ : ∃ i2, i2 = (j + 1) % N := ⟨_, rfl⟩
        have hi3 : i2 < N := by rw [hi2]; exact Nat.mod_lt _ (by omega)
        have hmod : ((j : Int) + 1) % (N : Int) = (i2 : Int) := by rw [hi2, Int.natCast_emod, Int.natCast_add]; rfl
        have hst := spotS_step (P := P) a b u z pl j
        rw [← HNN.out, ← hi2] at hst
        clear hi2
        have hna := HPN.out j hlt
        have hnb := HPN.out i2 hi3
        obtain ⟨bP, oP, rfl, _, v1⟩ := rpj.at1 hlt
        have v2 := rpj.cell1 hi3
        rw [ix_nums (by rw [← HNN.out]; exact hlt)] at v1
        rw [ix_nums (by rw [← HNN.out]; exact hi3)] at v2
        have r1 := HSR.out j (by omega)
        have r2 := HSR.out (j + 1) (by omega)
        have HSA := Lib.hid (HSP.out _ hna)
        have HSB := Lib.hid (HSP.out _ hnb)
        have b1 := HBX.out _ hna
        have b2 := HBX.out _ hnb
        generalize pl.getD j 0 = na at *
        generalize pl.getD i2 0 = nb at *
        obtain ⟨c0, c1'⟩ := hPj.cell2 hna
        obtain ⟨d0, d1'⟩ := hPj.cell2 hnb
        rw [Nat.zero_add] at c0 c1' d0 d1'
        have p1 := (sp_prod b1.1 b2.2).1
        have p2 := (sp_prod b2.1 b1.2).2
        generalize spX P a b z na = xa at *
        generalize spY P u z na = ya at *
        generalize spX P a b z nb = xb at *
        generalize spY P u z nb = yb at *
        generalize P na 0 = q1 at *
        generalize P na 1 = q2 at *
        generalize P nb 0 = q3 at *
        generalize P nb 1 = q4 at *
        have HST := Lib.hid hst
        rw [hst] at r2
        clear hst
        generalize spotS P a b u z pl j = sj at *
        have e1 : (0 : Int) ≤ (j : Int) := by omega
        have e2 : (j : Int) < (N : Int) := by omega
        have e3 : (0 : Int) ≤ (na : Int) := by omega
        have e4 : (na : Int) < (n1 : Int) := by omega
        have e5 : (0 : Int) ≤ (nb : Int) := by omega
        have e6 : (nb : Int) < (n1 : Int) := by omega
        have e7 : (0 : Int) ≤ (i2 : Int) := by omega
        have e8 : (i2 : Int) < (N : Int) := by omega
        have e9 : ¬ (N : Int) = 0 := by omega
        clear hPj rpj
        go_wp2_with fail
        first | refine wp_region_gr2 (by kernel_rfl) (by kernel_rfl) ?_ | refine wp_region_gr (by kernel_rfl) (by kernel_rfl) ?_
        repeat (go_big_quiet_step ((go_at_call 22; exact gr_of (HSA.out _))))
        refine wpQuiet_nil ?_
        intro _ hw'
        obtain ⟨gq, hw''⟩ := hw'
        subst hw''
        go_wp2_with fail
        first | refine wp_region_gr2 (by kernel_rfl) (by kernel_rfl) ?_ | refine wp_region_gr (by kernel_rfl) (by kernel_rfl) ?_
        repeat (go_big_quiet_step ((go_at_call 22; exact gr_of (HSB.out _))))
        refine wpQuiet_nil ?_
        intro _ hw'
        obtain ⟨gk, hw''⟩ := hw'
        subst hw''
        have Z := Y.trans (Ext.gr _ gk)
        clear Y k0j v1 v2 c0 c1' d0 d1' HSA HSB s2j
        go_wp2
        go_roundw
        case rel => exact ⟨j + 1, by omega, by rw [HST.out]; refine congrArg (Value.int .i64) ?_; omega, by go_num, Z⟩
        case measure => simp [intOf]; omega
      · obtain rfl : N = j := by omega
        have hLj := hL.ext Y
        have hBj := hB.ext Y
        have k1j := Y.cell k1
        have hS := HSM.out
        obtain ⟨S, hSd⟩ : ∃ S, S = spotS P a b u z pl N := ⟨_, rfl⟩
        rw [← hSd] at hS ⊢
        clear hSd HSM HSR HPN hpl rp rpj hlt hj hP hL hB k0 k1 s0 s1 s2
        go_wp2_with fail
        refine (HDP.out _ hPj hLj).mono ?_
        rintro e w11 ⟨rfl, x11⟩
        replace hPj := hPj.ext x11
        replace hLj := hLj.ext x11
        replace hBj := hBj.ext x11
        replace k0j := x11.cell k0j
        replace k1j := x11.cell k1j
        replace s0j := x11.cell s0j
        replace s1j := x11.cell s1j
        replace s2j := x11.cell s2j
        replace Y := Y.trans x11
        clear x11
        have HAQ := Lib.hid (HAO.out)
        clear HDP HAO
        have hd1 : ¬ (dp : Int) < 0 := by omega
        have hd2 : (dp : Int) < (n1 : Int) := by omega
        have hd3 : (0 : Int) ≤ (dp : Int) := by omega
        generalize areaV n1 P m1 L (fk : Int) = av at *
        have hd0 : decide ((dp : Int) < 0) = false := decide_eq_false hd1
        have hd4 : decide ((n1 : Int) ≤ (dp : Int)) = false := decide_eq_false (by omega)
        have hd5 : decide (n1 ≤ dp) = false := decide_eq_false (by omega)
        have hd6 : ¬ (n1 : Int) ≤ (dp : Int) := by omega
        have hd7 : ¬ n1 ≤ dp := by omega
        have hAR2 : (AR != av * u) = false := by rw [oA]; simp
        go_wp2_with fail
        go_upto_region 20 with fail
        go_cut [171] from 132 to 170 (fun s171 wx => s171 = .bool false ∧ Ext w11 wx)
        case first =>
          rcases hS with rfl | rfl
          · have m1 : ¬ AR * b < -(AR * b) := by omega
            have m2 : (AR * b != AR * b) = false := by simp
            first | refine wp_region_gr2 (by kernel_rfl) (by kernel_rfl) ?_ | refine wp_region_gr (by kernel_rfl) (by kernel_rfl) ?_
            repeat (go_big_quiet_step ((go_at_call 24; exact gr_of (HAQ.out _ (hPj.ext (Ext.gr _ _)) (hLj.ext (Ext.gr _ _))))))
            refine wpQuiet_nil ?_
            intro _ hw'
            obtain ⟨gq, hw''⟩ := hw'
            subst hw''
            go_wp2_with fail
            go_meet
            exact ⟨rfl, Ext.gr _ _⟩
          · by_cases hM : 0 < AR * b
            · have m1 : -(AR * b) < AR * b := by omega
              have m2 : (AR * b != AR * b) = false := by simp
              first | refine wp_region_gr2 (by kernel_rfl) (by kernel_rfl) ?_ | refine wp_region_gr (by kernel_rfl) (by kernel_rfl) ?_
              repeat (go_big_quiet_step ((go_at_call 24; exact gr_of (HAQ.out _ (hPj.ext (Ext.gr _ _)) (hLj.ext (Ext.gr _ _))))))
              refine wpQuiet_nil ?_
              intro _ hw'
              obtain ⟨gq, hw''⟩ := hw'
              subst hw''
              go_wp2_with fail
              go_meet
              exact ⟨rfl, Ext.gr _ _⟩
            · have m1 : ¬ -(AR * b) < AR * b := by omega
              have m2 : (AR * b != -(AR * b)) = false := by rw [show AR * b = 0 by omega]; rfl
              first | refine wp_region_gr2 (by kernel_rfl) (by kernel_rfl) ?_ | refine wp_region_gr (by kernel_rfl) (by kernel_rfl) ?_
              repeat (go_big_quiet_step ((go_at_call 24; exact gr_of (HAQ.out _ (hPj.ext (Ext.gr _ _)) (hLj.ext (Ext.gr _ _))))))
              refine wpQuiet_nil ?_
              intro _ hw'
              obtain ⟨gq, hw''⟩ := hw'
              subst hw''
              go_wp2_with fail
              go_meet
              exact ⟨rfl, Ext.gr _ _⟩
        case rest =>
          obtain ⟨rfl, Xc⟩ := hcut
          replace hPj := hPj.ext Xc
          replace hBj := hBj.ext Xc
          replace k0j := Xc.cell k0j
          replace s0j := Xc.cell s0j
          replace s1j := Xc.cell s1j
          replace s2j := Xc.cell s2j
          replace Y := Y.trans Xc
          clear Xc hLj k1j HAQ hAR2 hd0 hd4 hd5 hd6 hd7
          have HSD := Lib.hid (HSP.out dp hdp)
          obtain ⟨c0, c1'⟩ := hPj.cell2 hdp
          rw [Nat.zero_add] at c0 c1'
          generalize spX P a b z dp = xd at *
          have bD := HBX.out dp hdp
          have hmost := HMO.out
          generalize spY P u z dp = yd at *
          have HMO2 := Lib.hid hmost
          clear hmost HMO
          generalize P dp 0 = q1 at *
          generalize P dp 1 = q2 at *
          go_wp2_with fail
          first | refine wp_region_gr2 (by kernel_rfl) (by kernel_rfl) ?_ | refine wp_region_gr (by kernel_rfl) (by kernel_rfl) ?_
          repeat (go_big_quiet_step ((go_at_call 22; exact gr_of (HSD.out _))))
          refine wpQuiet_nil ?_
          intro _ hw'
          obtain ⟨gq, hw''⟩ := hw'
          subst hw''
          clear HSD c0 c1'
          have Y2 := Y.trans (Ext.gr _ gq)
          replace hPj := hPj.ext (Ext.gr _ gq)
          replace hBj := hBj.ext (Ext.gr _ gq)
          replace k0j := (Ext.gr _ gq).cell k0j
          replace s0j := (Ext.gr _ gq).cell s0j
          replace s1j := (Ext.gr _ gq).cell s1j
          replace s2j := (Ext.gr _ gq).cell s2j
          clear Y
          generalize wgr _ gq = w14 at *
          go_wp2
          go_loopw [27, 28, 29, 30, 31, 32] (fun s27 _ _ _ _ _ wr => ∃ i : Nat, i ≤ n1 ∧ s27 = .int .i64 i ∧ Ext w14 wr) (fun s27 _ _ _ _ _ _ => n1 - (intOf s27).toNat)
          case atStart => exact ⟨0, Nat.zero_le _, rfl, Ext.refl _⟩
          case round =>
            obtain ⟨i, hi, rfl, V⟩ := hrel
            have hPk := hPj.ext V
            have hBk := hBj.ext V
            have k0k := V.cell k0j
            have s0k := V.cell s0j
            have s1k := V.cell s1j
            have s2k := V.cell s2j
            clear k0j s0j s1j s2j
            by_cases hlt : i < n1
            · obtain ⟨c0, c1'⟩ := hPk.cell2 hlt
              rw [Nat.zero_add] at c0 c1'
              have HSI := Lib.hid (HSP.out i hlt)
              have HRI := fun r hr => HRM.out r hr i hlt
              have bI := HBX.out i hlt
              have hmi := HMO2.out i hlt
              generalize spX P a b z i = xi at *
              generalize spY P u z i = yi at *
              generalize P i 0 = q3 at *
              generalize P i 1 = q4 at *
              have hmi2 : decide (yd < yi) = false := decide_eq_false (by omega)
              have e1 : (0 : Int) ≤ (i : Int) := by omega
              have e2 : (i : Int) < (n1 : Int) := by omega
              clear hPk
              go_wp2_with fail
              first | refine wp_region_gr2 (by kernel_rfl) (by kernel_rfl) ?_ | refine wp_region_gr (by kernel_rfl) (by kernel_rfl) ?_
              repeat (go_big_quiet_step ((go_at_call 22; exact gr_of (HSI.out _))))
              refine wpQuiet_nil ?_
              intro _ hw'
              obtain ⟨gi, hw''⟩ := hw'
              subst hw''
              have V2 := V.trans (Ext.gr _ gi)
              replace hBk := hBk.ext (Ext.gr _ gi)
              replace k0k := (Ext.gr _ gi).cell k0k
              replace s0k := (Ext.gr _ gi).cell s0k
              replace s1k := (Ext.gr _ gi).cell s1k
              replace s2k := (Ext.gr _ gi).cell s2k
              replace c0 := (Ext.gr _ gi).cell c0
              replace c1' := (Ext.gr _ gi).cell c1'
              clear V HSI
              generalize wgr _ gi = w15 at *
              go_wp2_with fail
              refine (at_any A n c f 2 hn20 (by omega) (by omega) _ hBk).mono ?_
              rintro e w16 ⟨zr, rfl, hzr0, hzr1, x16⟩
              replace k0k := x16.cell k0k
              replace s0k := x16.cell s0k
              replace s1k := x16.cell s1k
              replace s2k := x16.cell s2k
              replace c0 := x16.cell c0
              replace c1' := x16.cell c1'
              replace V2 := V2.trans x16
              clear x16 hBk
              have hr0 : 0 ≤ zr * 4 % 1000 := Int.emod_nonneg _ (by omega)
              have hr1 : zr * 4 % 1000 < 1000 := Int.emod_lt_of_pos _ (by omega)
              have hzr4 : 0 ≤ zr * 4 := by omega
              go_wp2_with fail
              generalize zr * 4 % 1000 = r at *
              have HRJ := HRI r ⟨hr0, hr1⟩
              clear HRI hzr0 hzr1 hzr4
              have hrb0 : 0 ≤ r * b := Int.mul_nonneg hr0 (by omega)
              have hrb1 : r * b ≤ 1000 * 30 := Int.mul_le_mul (by omega) hb.2 (by omega) (by omega)
              by_cases hc : yi ≤ r * b
              · rw [decide_eq_true hc] at HRJ
                have hcd : decide (yi ≤ r * b) = true := decide_eq_true hc
                replace HRJ := Lib.hid HRJ
                go_wp2_with fail
                first | refine wp_region_gr2 (by kernel_rfl) (by kernel_rfl) ?_ | refine wp_region_gr (by kernel_rfl) (by kernel_rfl) ?_
                repeat (go_big_quiet_step ((go_at_call 25; exact gr_of (HRJ.out _))))
                refine wpQuiet_nil ?_
                intro _ hw'
                obtain ⟨gj, hw''⟩ := hw'
                subst hw''
                have V3 := V2.trans (Ext.gr _ gj)
                clear V2 k0k s0k s1k s2k c0 c1' HRJ
                go_wp2
                go_roundw
                case rel => exact ⟨i + 1, by omega, by go_num, V3⟩
                case measure => simp [intOf]; omega
              · rw [decide_eq_false hc] at HRJ
                have hcd : decide (yi ≤ r * b) = false := decide_eq_false hc
                replace HRJ := Lib.hid HRJ
                go_wp2_with fail
                first | refine wp_region_gr2 (by kernel_rfl) (by kernel_rfl) ?_ | refine wp_region_gr (by kernel_rfl) (by kernel_rfl) ?_
                repeat (go_big_quiet_step ((go_at_call 25; exact gr_of (HRJ.out _))))
                refine wpQuiet_nil ?_
                intro _ hw'
                obtain ⟨gj, hw''⟩ := hw'
                subst hw''
                have V3 := V2.trans (Ext.gr _ gj)
                clear V2 k0k s0k s1k s2k c0 c1' HRJ
                go_wp2
                go_roundw
                case rel => exact ⟨i + 1, by omega, by go_num, V3⟩
                case measure => simp [intOf]; omega
            · obtain rfl : n1 = i := by omega
              go_wp2_with fail
              refine (HSU.out _).mono ?_
              rintro e w17 ⟨rfl, x17⟩
              go_wp2
              go_ret
              exact ⟨rfl, (X.trans Y2).trans (V.trans x17)⟩
theorem own : ownKnob Try.prog.godebug = none := by kernel_rfl
theorem laid : laidOutB Try.prog = true := fLaid
set_option maxRecDepth 100000 in
theorem lifted (os : Os) (started : os.Started) (H : Type) (enc : TypeId × Value → H) :
    ReturnsInHanded {} Try.checked os 4 .any (Rows.fnSunSpec.pre6 enc Try.prog Try.f4 Rows.fnSunRow.domain false) (Rows.fnSunSpec.post enc Try.prog Try.f4 false true false false) := by
  refine returnsInHanded_of_change (C := Try.checked) own started (by kernel_rfl) Try.func4
    (ChangeSpec.witness6 (enc := enc) (C := Try.checked) false ⟨#[], #[.slice none 0 0], []⟩ 8 (by kernel_rfl) (by kernel_rfl) (by kernel_rfl) (by kernel_rfl)) ?_
  intro W base args ds gs before hval0 hW hcnd _
  have hval : ∀ (j : Nat) t v, Try.f4.params[j]? = some t → args[j]? = some v → Value.okWide Try.prog W .any base t v := hval0
  have hW' := hW
  obtain ⟨p, q, hA0, hV, rfl, hfz, hnd⟩ := hW
  have hA : DataW.TrodAll enc Try.prog W 0 (fun _ => true) true Try.f4.params.toList args.toList ds p := hA0
  rw [Try.params4] at hA hval
  obtain ⟨v0, vs0, d0, ds0, p0, q0, hargs, rfl, rfl, h0, r0⟩ := trodAll_cons hA
  obtain ⟨rfl, rfl, rfl⟩ := trodAll_nil r0
  obtain rfl : args = #[v0] := by cases args; simp_all
  obtain ⟨rfl, rfl⟩ := trodVars_none hV
  obtain ⟨A0, n0, c0, f0, rfl, i0, j0, k0⟩ := openB Try.underlying22 Try.underlying5 (by kernel_rfl) (hval 0 22 v0 rfl rfl) h0
  clear hA0 hval0
  refine (walk A0 n0 c0 f0 i0 j0 W k0).mono fun e W' ⟨he, hg⟩ => ?_
  subst he
  exact ⟨_, rfl, post_law (tb := 4) laid (by kernel_rfl) (by kernel_rfl) Try.underlying4 hW' rfl rfl rfl rfl hg⟩
set_option maxHeartbeats 4000000 in
set_option maxRecDepth 100000 in
theorem facts : joinedFacts Try.checked.prog 4 Try.f4 Rows.fnSunSpec Rows.fnSunRow = true := by
  unfold joinedFacts
  repeat' (with_reducible refine and_intro ?_ ?_)
  all_goals first | with_reducible exact fMayEnter | (with_reducible refine fLifted _ ?_; rfl) | (with_reducible refine fMake _ ?_; rfl) | (with_reducible exact fLaid) | (as_aux_lemma => kernel_rfl)
theorem over : Rows.fnSunRow.holds Try.pinned (OpenSpec.ofChange Rows.fnSunSpec) :=
  OpenClaim.holds_of_wide 4 Try.f4 rfl rfl rfl rfl rfl rfl rfl ⟨rfl, rfl, rfl, rfl, rfl⟩ rfl rfl rfl rfl rfl (by kernel_rfl) Try.func4 facts
    (of_decide_eq_true (by kernel_rfl)) (by unfold Func.isWrapper; first | (rw [if_pos (by decide +kernel)]; kernel_rfl) | (rw [if_neg (by decide +kernel)]; exact ⟨rfl, rfl⟩))
    (fun os started H enc _ => lifted os started H enc)
theorem proved : Rows.FnSunSaid :=
  over
#print axioms proved
end Go.Proofs.Ytgmhmlhdiklaaaa.fnSun
