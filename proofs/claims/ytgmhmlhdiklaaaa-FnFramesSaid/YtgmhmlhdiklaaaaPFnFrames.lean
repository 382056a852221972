/-
  The law FnFrames of the given program holds: for every input the Go function returns true and each argument reads afterwards as it read before. No conditions.
-/
import Derived.Test.YtgmhmlhdiklaaaaRows
import Derived.Test.YtgmhmlhdiklaaaaFacts
import Derived.Test.YtgmhmlhdiklaaaaFrmL
import Derived.Test.YtgmhmlhdiklaaaaWdI
import Derived.Test.YtgmhmlhdiklaaaaMidM
import Derived.Test.YtgmhmlhdiklaaaaPanM
import Derived.Test.YtgmhmlhdiklaaaaSmaM
import Derived.Test.YtgmhmlhdiklaaaaCodeA
import Derived.Test.YtgmhmlhdiklaaaaLenA
namespace Go.Proofs.Ytgmhmlhdiklaaaa.fnFrames
open Go.ChangeShapes Go.WideShapes Go.ChangeAt Go.RowKit
set_option linter.unusedVariables false

set_option maxHeartbeats 16000000 in
set_option maxRecDepth 100000 in
theorem walk (A : Option Addr) (n c : Nat) (f : Nat → Int) (hnc : n ≤ c) (hcm : c ≤ 9223372036854775807) (w : World) (hr : BRecs w A n f) :
    Calls Try.prog 6 #[.slice A n c] w fun e w' => e = .returned (.bool true) ∧ Ext w w' := by
  by_cases hbig : 1048576 < n
  · have hd : decide (1048576 < n) = true := by simpa using hbig
    go_enter Try.func6, Try.ntmps6
    go_wp2_with fail
    refine (big_any A n c (by omega) w).mono ?_
    rintro e w1 ⟨rfl, x1⟩
    go_wp2
    go_ret
    exact ⟨rfl, x1⟩
  · have hd : decide (1048576 < n) = false := by simpa using hbig
    have hn20 : n ≤ 1048576 := by omega
    go_enter Try.func6, Try.ntmps6
    go_wp2_with fail
    refine (big_any A n c (by omega) w).mono ?_
    rintro e w1 ⟨rfl, x1⟩
    clear hd hbig
    go_wp2_with fail
    refine (DrawWhole_any A n c f hnc hcm hn20 _ (hr.ext x1)).mono ?_
    rintro e w2 ⟨A1, n1, c1, zs, B1, m1, d1, ys, rfl, ho, hw, x2⟩
    have hwin := (wholeB_get hw).1
    obtain ⟨hsz, hNo, _⟩ := winB_get hwin
    obtain ⟨gP, rfl⟩ := ho.2.2.2.2.1.some_ (by omega)
    have hi1 := ho.1
    have hi2 := ho.2.1
    have hi3 := ho.2.2.1
    have hi4 := ho.2.2.2.1
    have X := x1.trans x2
    have hB := hr.ext X
    have hP := ho.recsP
    have hL := ho.recsL
    generalize FW zs = P at *
    generalize FW ys = L at *
    clear ho hr x1 x2
    have x3 : Ext w2 (w2.alloc (.cells #[.slice (some ⟨gP, 0, none⟩) n1 c1, .slice B1 m1 d1] 27)) := (Ext.refl _).alloc _
    have k0 : (w2.alloc (.cells #[.slice (some ⟨gP, 0, none⟩) n1 c1, .slice B1 m1 d1] 27)).cell? ⟨w2.heap.size, 0, none⟩ = some (.slice (some ⟨gP, 0, none⟩) n1 c1) := by simp [go_sem]
    have k1 : (w2.alloc (.cells #[.slice (some ⟨gP, 0, none⟩) n1 c1, .slice B1 m1 d1] 27)).cell? ⟨w2.heap.size, 1, none⟩ = some (.slice B1 m1 d1) := by simp [go_sem]
    replace X := X.trans x3
    replace hB := hB.ext x3
    replace hP := hP.ext x3
    replace hL := hL.ext x3
    clear x3
    go_wp2_with fail
    generalize w2.alloc (.cells #[.slice (some ⟨gP, 0, none⟩) n1 c1, .slice B1 m1 d1] 27) = w3 at *
    generalize w2.heap.size = t at *
    obtain ⟨k, T, x, y, lx, ly, hx, hy, a, b, u, v, ok, oT, om, ob, og, of4, of8, hT, ⟨hlx, hly, hhx, hhy⟩, ⟨hx0, hx1, hy0, hy1⟩, ⟨ha, hb, hu, hv⟩, hcase⟩ := frame_all hw
    obtain ⟨N, S, oN, oS, hN0, hN1, hS0, hS1, hNS, hq0, hq1, hq⟩ := len_law hw
    have hm0 : 0 < m1 := (wholeB_get hw).2.1
    have HM := Lib.hid (fun W (hP : Recs W 2 (some ⟨gP, 0, none⟩) n1 P) (hL : Recs W 2 B1 m1 L) => (by have q := impl_MiddleOf (some ⟨gP, 0, none⟩) n1 c1 P B1 m1 d1 L hi1 hi2 hi3 hi4 W hP hL; rw [om] at q; exact q : Calls Try.prog 33 #[.agg #[.slice (some ⟨gP, 0, none⟩) n1 c1, .slice B1 m1 d1]] W fun e w' => e = .returned (.tuple #[.int .i64 x, .int .i64 y, .int .i64 (3 * T)]) ∧ Ext W w'))
    have HT := Lib.hid (fun W (hP : Recs W 2 (some ⟨gP, 0, none⟩) n1 P) (hL : Recs W 2 B1 m1 L) => (by have q := spec_TotalArea (some ⟨gP, 0, none⟩) n1 c1 P B1 m1 d1 L hi1 hi2 hi3 hi4 W hP hL; rw [oT] at q; exact q : Calls Try.prog 34 #[.agg #[.slice (some ⟨gP, 0, none⟩) n1 c1, .slice B1 m1 d1]] W fun e w' => e = .returned (.int .i64 T) ∧ Ext W w'))
    have HN := Lib.hid (fun W (hP : Recs W 2 (some ⟨gP, 0, none⟩) n1 P) (hL : Recs W 2 B1 m1 L) => (by have q := impl_LeadLength (some ⟨gP, 0, none⟩) n1 c1 P B1 m1 d1 L hi1 hi2 hi3 hi4 W hP hL; rw [oN] at q; exact q : Calls Try.prog 35 #[.agg #[.slice (some ⟨gP, 0, none⟩) n1 c1, .slice B1 m1 d1]] W fun e w' => e = .returned (.int .i64 N) ∧ Ext W w'))
    have HG := Lib.hid (fun W (hP : Recs W 2 (some ⟨gP, 0, none⟩) n1 P) (hL : Recs W 2 B1 m1 L) => (by have q := impl_GlassWeight (some ⟨gP, 0, none⟩) n1 c1 P B1 m1 d1 L hi1 hi2 hi3 hi4 3 (by omega) W hP hL; rw [og] at q; exact q : Calls Try.prog 37 #[.agg #[.slice (some ⟨gP, 0, none⟩) n1 c1, .slice B1 m1 d1], .int .i64 3] W fun e w' => e = .returned (.int .i64 (3 * T)) ∧ Ext W w'))
    have HO := Lib.hid (fun W (hP : Recs W 2 (some ⟨gP, 0, none⟩) n1 P) (hL : Recs W 2 B1 m1 L) => (by have q := spec_OuterFace (some ⟨gP, 0, none⟩) n1 c1 P B1 m1 d1 L hi1 hi2 hi3 hi4 W hP hL; rw [ok] at q; exact q : Calls Try.prog 32 #[.agg #[.slice (some ⟨gP, 0, none⟩) n1 c1, .slice B1 m1 d1]] W fun e w' => e = .returned (.int .i64 (k : Int)) ∧ Ext W w'))
    have HX := Lib.hid (fun W (hP : Recs W 2 (some ⟨gP, 0, none⟩) n1 P) (hL : Recs W 2 B1 m1 L) => (by have q := spec_PaneBox (some ⟨gP, 0, none⟩) n1 c1 P B1 m1 d1 L hi1 hi2 hi3 hi4 (k : Int) (by have := outerV_rng (n := n1) (m := m1) (P := P) (L := L); omega) W hP hL; rw [ob] at q; exact q : Calls Try.prog 38 #[.agg #[.slice (some ⟨gP, 0, none⟩) n1 c1, .slice B1 m1 d1], .int .i64 (k : Int)] W fun e w' => e = .returned (.tuple #[.agg #[.int .i64 lx, .int .i64 ly], .agg #[.int .i64 hx, .int .i64 hy]]) ∧ Ext W w'))
    have HF4 := Lib.hid (fun W (hP : Recs W 2 (some ⟨gP, 0, none⟩) n1 P) (hL : Recs W 2 B1 m1 L) => (by have q := impl_HingeForce (some ⟨gP, 0, none⟩) n1 c1 P B1 m1 d1 L hi1 hi2 hi3 hi4 2 lx 4 (by omega) (by omega) (by omega) W hP hL; rw [of4] at q; exact q : Calls Try.prog 39 #[.agg #[.slice (some ⟨gP, 0, none⟩) n1 c1, .slice B1 m1 d1], .int .i64 2, .int .i64 lx, .int .i64 4] W fun e w' => e = .returned (.tuple #[.int .i64 a, .int .i64 b]) ∧ Ext W w'))
    have HF8 := Lib.hid (fun W (hP : Recs W 2 (some ⟨gP, 0, none⟩) n1 P) (hL : Recs W 2 B1 m1 L) => (by have q := impl_HingeForce (some ⟨gP, 0, none⟩) n1 c1 P B1 m1 d1 L hi1 hi2 hi3 hi4 2 lx 8 (by omega) (by omega) (by omega) W hP hL; rw [of8] at q; exact q : Calls Try.prog 39 #[.agg #[.slice (some ⟨gP, 0, none⟩) n1 c1, .slice B1 m1 d1], .int .i64 2, .int .i64 lx, .int .i64 8] W fun e w' => e = .returned (.tuple #[.int .i64 u, .int .i64 v]) ∧ Ext W w'))
    have HH := Lib.hid (fun (sd ap l : Int) (h1 : 0 ≤ sd ∧ sd ≤ 20) (h2 : 0 ≤ ap ∧ ap ≤ 20) (h3 : 0 ≤ l ∧ l ≤ 1000000) W (hP : Recs W 2 (some ⟨gP, 0, none⟩) n1 P) (hL : Recs W 2 B1 m1 L) => impl_HingeHolds (some ⟨gP, 0, none⟩) n1 c1 P B1 m1 d1 L hi1 hi2 hi3 hi4 2 sd ap l (by omega) (by omega) (by omega) (by omega) W hP hL)
    have HLS := Lib.hid (fun j (hj : j < m1) => (⟨winB_ends hwin hj, lsqL_rng hwin hj⟩ : _ ∧ _))
    have HNO := Lib.hid hNo
    have HCS := Lib.hid hcase
    have HSS := Lib.hid oS
    clear om oT oN og ok ob of4 of8 hcase oS hNo hw
    refine (HM.out _ hP hL).mono ?_
    rintro e w4 ⟨rfl, x4⟩
    replace hP := hP.ext x4
    replace hL := hL.ext x4
    replace k0 := x4.cell k0
    replace k1 := x4.cell k1
    replace X := X.trans x4
    clear x4
    go_wp2_with fail
    refine (HT.out _ hP hL).mono ?_
    rintro e w5 ⟨rfl, x5⟩
    replace hP := hP.ext x5
    replace hL := hL.ext x5
    replace k0 := x5.cell k0
    replace k1 := x5.cell k1
    replace X := X.trans x5
    clear x5
    go_wp2_with fail
    refine (HN.out _ hP hL).mono ?_
    rintro e w6 ⟨rfl, x6⟩
    replace hP := hP.ext x6
    replace hL := hL.ext x6
    replace k0 := x6.cell k0
    replace k1 := x6.cell k1
    replace X := X.trans x6
    clear x6
    go_wp2
    go_loopw [9, 10, 11] (fun s9 i r wr => ∃ j : Nat, j ≤ m1 ∧ s9 = .int .i64 (psum (lsqL P L) j) ∧ i = .int .i64 j ∧ (0 ≤ psum (lsqL P L) j ∧ psum (lsqL P L) j ≤ 800 * j) ∧ Ext w6 wr) (fun _ i _ _ => m1 - (intOf i).toNat)
    case atStart => exact ⟨0, Nat.zero_le _, rfl, rfl, by simp [psum], Ext.refl _⟩
    case round =>
      obtain ⟨j, hj, rfl, rfl, hsum, Y⟩ := hrel
      have k0j := Y.cell k0
      have k1j := Y.cell k1
      have hPj := hP.ext Y
      have hLj := hL.ext Y
      by_cases hlt : j < m1
      · obtain ⟨hends, hls⟩ := HLS.out j hlt
        have hsq : psum (lsqL P L) (j + 1) = psum (lsqL P L) j + lsqL P L j := rfl
        have HSQ := Lib.hid hsq
        clear hsq
        have hdef : lsqL P L j = lsq (P (fromN L j) 0) (P (fromN L j) 1) (P (toN L j) 0) (P (toN L j) 1) := rfl
        have HNA := HNO.out.1 (fromN L j) (by omega)
        have HNB := HNO.out.1 (toN L j) hends.2.2.2
        have r1 := nodeB_rng HNA
        have r2 := nodeB_rng HNB
        have HLQ := fun W => spec_LengthSquare (P (fromN L j) 0) (P (fromN L j) 1) (P (toN L j) 0) (P (toN L j) 1) (by unfold I64; omega) (by unfold I64; omega) (by unfold I64; omega) (by unfold I64; omega) HNA HNB W
        rw [← hdef] at HLQ
        replace HLQ := Lib.hid HLQ
        clear hdef HNA HNB
        obtain ⟨bL, oL, rfl, _, l0, l1⟩ := hLj.at2 hlt
        rw [hends.1] at l0
        rw [hends.2.1] at l1
        obtain ⟨he1, he2⟩ := hends.2.2
        obtain ⟨n00, n01⟩ := hPj.cell2 (k := fromN L j) (by omega)
        obtain ⟨n10, n11⟩ := hPj.cell2 (k := toN L j) he2
        rw [Nat.zero_add] at n00 n01 n10 n11
        clear hends hPj hLj
        have e1 : (0 : Int) ≤ (j : Int) := by omega
        have e2 : (j : Int) < (m1 : Int) := by omega
        have e3 : (0 : Int) ≤ (fromN L j : Int) := by omega
        have e4 : (fromN L j : Int) < (n1 : Int) := by omega
        have e5 : (0 : Int) ≤ (toN L j : Int) := by omega
        have e6 : (toN L j : Int) < (n1 : Int) := by omega
        generalize lsqL P L j = sj at *
        generalize psum (lsqL P L) j = sm at *
        generalize fromN L j = fa at *
        generalize toN L j = ta at *
        generalize P fa 0 = xa0 at *
        generalize P fa 1 = ya0 at *
        generalize P ta 0 = xb0 at *
        generalize P ta 1 = yb0 at *
        go_wp2_with fail
        go_region_held3 (fun w' => w'.cell? ⟨t, 0, none⟩ = some (.slice (some ⟨gP, 0, none⟩) n1 c1) ∧ w'.cell? ⟨t, 1, none⟩ = some (.slice (some ⟨bL, oL, none⟩) m1 d1) ∧ w'.cell? ⟨bL, oL + j * 2, none⟩ = some (.int .i64 (fa : Int)) ∧ w'.cell? ⟨bL, oL + j * 2 + 1, none⟩ = some (.int .i64 (ta : Int)) ∧ w'.cell? ⟨gP, fa * 2, none⟩ = some (.int .i64 xa0) ∧ w'.cell? ⟨gP, fa * 2 + 1, none⟩ = some (.int .i64 ya0) ∧ w'.cell? ⟨gP, ta * 2, none⟩ = some (.int .i64 xb0) ∧ w'.cell? ⟨gP, ta * 2 + 1, none⟩ = some (.int .i64 yb0)) (first | exact ⟨k0j, k1j, l0, l1, n00, n01, n10, n11⟩ | exact (fun (Z : Ext wr _) => ⟨Z.cell k0j, Z.cell k1j, Z.cell l0, Z.cell l1, Z.cell n00, Z.cell n01, Z.cell n10, Z.cell n11⟩) Xp) (first
          | (go_at_call 36; refine (HLQ.out _).mono ?_; rintro e wp ⟨rfl, xp⟩; have Xp : Ext wr wp := Ext.trans (Ext.refl _).drew xp))
        have Z := Y.trans Xp
        clear Xp xp k0j k1j l0 l1 n00 n01 n10 n11 Y
        go_wp2
        go_roundw
        case rel => exact ⟨j + 1, by omega, by rw [HSQ.out], by go_num, by rw [HSQ.out]; omega, Z⟩
        case measure => simp [intOf]; omega
      · obtain rfl : m1 = j := by omega
        clear hlt hj hsum
        rw [HSS.out]
        have nA : ¬ N < (m1 : Int) := by omega
        have n2 : ¬ (m1 : Int) = 0 := by omega
        have n3 : ¬ S < N := by omega
        have hPj := hP.ext Y
        have hLj := hL.ext Y
        clear hP hL
        go_wp2_with fail
        refine (HG.out _ hPj hLj).mono ?_
        rintro e w8 ⟨rfl, x8⟩
        replace hPj := hPj.ext x8
        replace hLj := hLj.ext x8
        replace k0j := x8.cell k0j
        replace k1j := x8.cell k1j
        replace Y := Y.trans x8
        clear x8
        go_upto_region 15 with fail
        go_cut [12, 13] from 99 to 105 (fun s12 s13 wx => ∃ g12 g13 : Nat, s12 = .pointer (some ⟨g12, 0, none⟩) ∧ s13 = .pointer (some ⟨g13, 0, none⟩) ∧ Ext w8 wx ∧ wx.cell? ⟨g12, 0, none⟩ = some (.int .i64 lx) ∧ wx.cell? ⟨g12, 1, none⟩ = some (.int .i64 ly) ∧ wx.cell? ⟨g13, 0, none⟩ = some (.int .i64 hx) ∧ wx.cell? ⟨g13, 1, none⟩ = some (.int .i64 hy))
        case first =>
          go_region_held3 (fun w' => w'.cell? ⟨t, 0, none⟩ = some (.slice (some ⟨gP, 0, none⟩) n1 c1) ∧ w'.cell? ⟨t, 1, none⟩ = some (.slice B1 m1 d1)) (exact (fun (Z : Ext w8 _) => ⟨Z.cell k0j, Z.cell k1j⟩) (by repeat (first | with_reducible exact Ext.refl _ | with_reducible exact Xb | with_reducible exact Xa | with_reducible apply Ext.drew | with_reducible apply Ext.alloc | with_reducible (refine Ext.setCell ?_ (by first | (simp; done) | (simp; omega)) _)))) (first
            | (go_at_call 32; refine (HO.out _ (hPj.ext (show Ext w8 _ by repeat (first | with_reducible exact Ext.refl _ | with_reducible exact Xb | with_reducible exact Xa | with_reducible apply Ext.drew | with_reducible apply Ext.alloc | with_reducible (refine Ext.setCell ?_ (by first | (simp; done) | (simp; omega)) _)))) (hLj.ext (show Ext w8 _ by repeat (first | with_reducible exact Ext.refl _ | with_reducible exact Xb | with_reducible exact Xa | with_reducible apply Ext.drew | with_reducible apply Ext.alloc | with_reducible (refine Ext.setCell ?_ (by first | (simp; done) | (simp; omega)) _))))).mono ?_; rintro e wa ⟨rfl, xa⟩; have Xa : Ext w8 _ := Ext.trans (by repeat (first | with_reducible exact Ext.refl _ | with_reducible exact Xb | with_reducible exact Xa | with_reducible apply Ext.drew | with_reducible apply Ext.alloc | with_reducible (refine Ext.setCell ?_ (by first | (simp; done) | (simp; omega)) _))) xa; have Za := Xa.size; (try (refine (fun (ha00 : wa.cell? ⟨w8.heap.size, 0, none⟩ = some (.int .i64 0)) => ?_) ?_; rotate_left; (refine xa.cell ?_; (first | (focus (simp [go_sem]; done)) | (focus (simp [go_sem, *]; done)))))); (try (refine (fun (ha0f0 : wa.frozen? ⟨w8.heap.size, 0, none⟩ = false) => ?_) ?_; rotate_left; (refine xa.frozen (u := .int .i64 0) ?_ ?_; (first | (focus (simp [go_sem]; done)) | (focus (simp [go_sem, *]; done))); (first | (focus (simp [go_sem]; done)) | (focus (simp [go_sem, *]; done)))))); (try (refine (fun (ha01 : wa.cell? ⟨w8.heap.size, 1, none⟩ = some (.int .i64 0)) => ?_) ?_; rotate_left; (refine xa.cell ?_; (first | (focus (simp [go_sem]; done)) | (focus (simp [go_sem, *]; done)))))); (try (refine (fun (ha0f1 : wa.frozen? ⟨w8.heap.size, 1, none⟩ = false) => ?_) ?_; rotate_left; (refine xa.frozen (u := .int .i64 0) ?_ ?_; (first | (focus (simp [go_sem]; done)) | (focus (simp [go_sem, *]; done))); (first | (focus (simp [go_sem]; done)) | (focus (simp [go_sem, *]; done)))))); (try (have ha0l : w8.heap.size < wa.heap.size := World.block_lt_of_cell? _ _ ha00; have ha0l1 : w8.heap.size < wa.heap.size + 1 := Nat.lt_succ_of_lt ha0l; have ha0l2 : w8.heap.size < wa.heap.size + 1 + 1 := Nat.lt_succ_of_lt ha0l1)); (try (refine (fun (ha10 : wa.cell? ⟨w8.heap.size + 1, 0, none⟩ = some (.int .i64 0)) => ?_) ?_; rotate_left; (refine xa.cell ?_; (first | (focus (simp [go_sem]; done)) | (focus (simp [go_sem, *]; done)))))); (try (refine (fun (ha1f0 : wa.frozen? ⟨w8.heap.size + 1, 0, none⟩ = false) => ?_) ?_; rotate_left; (refine xa.frozen (u := .int .i64 0) ?_ ?_; (first | (focus (simp [go_sem]; done)) | (focus (simp [go_sem, *]; done))); (first | (focus (simp [go_sem]; done)) | (focus (simp [go_sem, *]; done)))))); (try (refine (fun (ha11 : wa.cell? ⟨w8.heap.size + 1, 1, none⟩ = some (.int .i64 0)) => ?_) ?_; rotate_left; (refine xa.cell ?_; (first | (focus (simp [go_sem]; done)) | (focus (simp [go_sem, *]; done)))))); (try (refine (fun (ha1f1 : wa.frozen? ⟨w8.heap.size + 1, 1, none⟩ = false) => ?_) ?_; rotate_left; (refine xa.frozen (u := .int .i64 0) ?_ ?_; (first | (focus (simp [go_sem]; done)) | (focus (simp [go_sem, *]; done))); (first | (focus (simp [go_sem]; done)) | (focus (simp [go_sem, *]; done)))))); (try (have ha1l : w8.heap.size + 1 < wa.heap.size := World.block_lt_of_cell? _ _ ha10; have ha1l1 : w8.heap.size + 1 < wa.heap.size + 1 := Nat.lt_succ_of_lt ha1l; have ha1l2 : w8.heap.size + 1 < wa.heap.size + 1 + 1 := Nat.lt_succ_of_lt ha1l1)))
            | (go_at_call 38; refine (HX.out _ (hPj.ext (show Ext w8 _ by repeat (first | with_reducible exact Ext.refl _ | with_reducible exact Xb | with_reducible exact Xa | with_reducible apply Ext.drew | with_reducible apply Ext.alloc | with_reducible (refine Ext.setCell ?_ (by first | (simp; done) | (simp; omega)) _)))) (hLj.ext (show Ext w8 _ by repeat (first | with_reducible exact Ext.refl _ | with_reducible exact Xb | with_reducible exact Xa | with_reducible apply Ext.drew | with_reducible apply Ext.alloc | with_reducible (refine Ext.setCell ?_ (by first | (simp; done) | (simp; omega)) _))))).mono ?_; rintro e wb ⟨rfl, xb⟩; have Xb : Ext w8 _ := Ext.trans (by repeat (first | with_reducible exact Ext.refl _ | with_reducible exact Xb | with_reducible exact Xa | with_reducible apply Ext.drew | with_reducible apply Ext.alloc | with_reducible (refine Ext.setCell ?_ (by first | (simp; done) | (simp; omega)) _))) xb; have Zb := Xb.size; (try (refine (fun (hb00 : wb.cell? ⟨w8.heap.size, 0, none⟩ = some (.int .i64 0)) => ?_) ?_; rotate_left; (refine xb.cell ?_; (first | (focus (simp [go_sem]; done)) | (focus (simp [go_sem, *]; done)))))); (try (refine (fun (hb0f0 : wb.frozen? ⟨w8.heap.size, 0, none⟩ = false) => ?_) ?_; rotate_left; (refine xb.frozen (u := .int .i64 0) ?_ ?_; (first | (focus (simp [go_sem]; done)) | (focus (simp [go_sem, *]; done))); (first | (focus (simp [go_sem]; done)) | (focus (simp [go_sem, *]; done)))))); (try (refine (fun (hb01 : wb.cell? ⟨w8.heap.size, 1, none⟩ = some (.int .i64 0)) => ?_) ?_; rotate_left; (refine xb.cell ?_; (first | (focus (simp [go_sem]; done)) | (focus (simp [go_sem, *]; done)))))); (try (refine (fun (hb0f1 : wb.frozen? ⟨w8.heap.size, 1, none⟩ = false) => ?_) ?_; rotate_left; (refine xb.frozen (u := .int .i64 0) ?_ ?_; (first | (focus (simp [go_sem]; done)) | (focus (simp [go_sem, *]; done))); (first | (focus (simp [go_sem]; done)) | (focus (simp [go_sem, *]; done)))))); (try (have hb0l : w8.heap.size < wb.heap.size := World.block_lt_of_cell? _ _ hb00; have hb0l1 : w8.heap.size < wb.heap.size + 1 := Nat.lt_succ_of_lt hb0l; have hb0l2 : w8.heap.size < wb.heap.size + 1 + 1 := Nat.lt_succ_of_lt hb0l1)); (try (refine (fun (hb10 : wb.cell? ⟨w8.heap.size + 1, 0, none⟩ = some (.int .i64 0)) => ?_) ?_; rotate_left; (refine xb.cell ?_; (first | (focus (simp [go_sem]; done)) | (focus (simp [go_sem, *]; done)))))); (try (refine (fun (hb1f0 : wb.frozen? ⟨w8.heap.size + 1, 0, none⟩ = false) => ?_) ?_; rotate_left; (refine xb.frozen (u := .int .i64 0) ?_ ?_; (first | (focus (simp [go_sem]; done)) | (focus (simp [go_sem, *]; done))); (first | (focus (simp [go_sem]; done)) | (focus (simp [go_sem, *]; done)))))); (try (refine (fun (hb11 : wb.cell? ⟨w8.heap.size + 1, 1, none⟩ = some (.int .i64 0)) => ?_) ?_; rotate_left; (refine xb.cell ?_; (first | (focus (simp [go_sem]; done)) | (focus (simp [go_sem, *]; done)))))); (try (refine (fun (hb1f1 : wb.frozen? ⟨w8.heap.size + 1, 1, none⟩ = false) => ?_) ?_; rotate_left; (refine xb.frozen (u := .int .i64 0) ?_ ?_; (first | (focus (simp [go_sem]; done)) | (focus (simp [go_sem, *]; done))); (first | (focus (simp [go_sem]; done)) | (focus (simp [go_sem, *]; done)))))); (try (have hb1l : w8.heap.size + 1 < wb.heap.size := World.block_lt_of_cell? _ _ hb10; have hb1l1 : w8.heap.size + 1 < wb.heap.size + 1 := Nat.lt_succ_of_lt hb1l; have hb1l2 : w8.heap.size + 1 < wb.heap.size + 1 + 1 := Nat.lt_succ_of_lt hb1l1)); (try (refine (fun (hc00 : wb.cell? ⟨wa.heap.size, 0, none⟩ = some (.int .i64 0)) => ?_) ?_; rotate_left; (refine xb.cell ?_; (first | (focus (simp [go_sem]; done)) | (focus (simp [go_sem, *]; done)))))); (try (refine (fun (hc0f0 : wb.frozen? ⟨wa.heap.size, 0, none⟩ = false) => ?_) ?_; rotate_left; (refine xb.frozen (u := .int .i64 0) ?_ ?_; (first | (focus (simp [go_sem]; done)) | (focus (simp [go_sem, *]; done))); (first | (focus (simp [go_sem]; done)) | (focus (simp [go_sem, *]; done)))))); (try (refine (fun (hc01 : wb.cell? ⟨wa.heap.size, 1, none⟩ = some (.int .i64 0)) => ?_) ?_; rotate_left; (refine xb.cell ?_; (first | (focus (simp [go_sem]; done)) | (focus (simp [go_sem, *]; done)))))); (try (refine (fun (hc0f1 : wb.frozen? ⟨wa.heap.size, 1, none⟩ = false) => ?_) ?_; rotate_left; (refine xb.frozen (u := .int .i64 0) ?_ ?_; (first | (focus (simp [go_sem]; done)) | (focus (simp [go_sem, *]; done))); (first | (focus (simp [go_sem]; done)) | (focus (simp [go_sem, *]; done)))))); (try (have hc0l : wa.heap.size < wb.heap.size := World.block_lt_of_cell? _ _ hc00; have hc0l1 : wa.heap.size < wb.heap.size + 1 := Nat.lt_succ_of_lt hc0l; have hc0l2 : wa.heap.size < wb.heap.size + 1 + 1 := Nat.lt_succ_of_lt hc0l1)); (try (refine (fun (hc10 : wb.cell? ⟨wa.heap.size + 1, 0, none⟩ = some (.int .i64 0)) => ?_) ?_; rotate_left; (refine xb.cell ?_; (first | (focus (simp [go_sem]; done)) | (focus (simp [go_sem, *]; done)))))); (try (refine (fun (hc1f0 : wb.frozen? ⟨wa.heap.size + 1, 0, none⟩ = false) => ?_) ?_; rotate_left; (refine xb.frozen (u := .int .i64 0) ?_ ?_; (first | (focus (simp [go_sem]; done)) | (focus (simp [go_sem, *]; done))); (first | (focus (simp [go_sem]; done)) | (focus (simp [go_sem, *]; done)))))); (try (refine (fun (hc11 : wb.cell? ⟨wa.heap.size + 1, 1, none⟩ = some (.int .i64 0)) => ?_) ?_; rotate_left; (refine xb.cell ?_; (first | (focus (simp [go_sem]; done)) | (focus (simp [go_sem, *]; done)))))); (try (refine (fun (hc1f1 : wb.frozen? ⟨wa.heap.size + 1, 1, none⟩ = false) => ?_) ?_; rotate_left; (refine xb.frozen (u := .int .i64 0) ?_ ?_; (first | (focus (simp [go_sem]; done)) | (focus (simp [go_sem, *]; done))); (first | (focus (simp [go_sem]; done)) | (focus (simp [go_sem, *]; done)))))); (try (have hc1l : wa.heap.size + 1 < wb.heap.size := World.block_lt_of_cell? _ _ hc10; have hc1l1 : wa.heap.size + 1 < wb.heap.size + 1 := Nat.lt_succ_of_lt hc1l; have hc1l2 : wa.heap.size + 1 < wb.heap.size + 1 + 1 := Nat.lt_succ_of_lt hc1l1))))
          all_goals
            go_wp2_with fail
            go_meet
            refine ⟨_, _, rfl, rfl, ?_, ?_, ?_, ?_, ?_⟩
            all_goals first | (focus ((repeat (first | with_reducible exact Ext.refl _ | with_reducible exact Xb | with_reducible exact Xa | with_reducible apply Ext.drew | with_reducible apply Ext.alloc | with_reducible (refine Ext.setCell ?_ (by first | (simp; done) | (simp; omega)) _))); done)) | (focus (simp [go_sem]; done)) | (focus (simp [go_sem, *]; done)) | (focus (simp [go_sem, *]; omega))
        case rest =>
          obtain ⟨g12, g13, rfl, rfl, Xc, v0, v1, v2, v3⟩ := hcut
          replace hPj := hPj.ext Xc
          replace hLj := hLj.ext Xc
          replace k0j := Xc.cell k0j
          replace k1j := Xc.cell k1j
          replace Y := Y.trans Xc
          clear Xc
          have hpr : ∀ z : Int, 0 ≤ z → z ≤ 20 → 0 ≤ z * (3 * T) ∧ z * (3 * T) ≤ 960000 := fun z h1 h2 => ⟨Int.mul_nonneg h1 (by omega), Int.le_trans (Int.mul_le_mul h2 (show 3 * T ≤ 48000 by omega) (by omega) (by omega)) (by omega)⟩
          obtain ⟨p0, p1⟩ := hpr lx hlx.1 hlx.2
          obtain ⟨p2, p3⟩ := hpr ly hly.1 hly.2
          obtain ⟨p4, p5⟩ := hpr hx hhx.1 hhx.2
          obtain ⟨p6, p7⟩ := hpr hy hhy.1 hhy.2
          clear hpr
          go_wp2_with fail
          refine (HF4.out _ hPj hLj).mono ?_
          rintro e w9 ⟨rfl, x9⟩
          replace hPj := hPj.ext x9
          replace hLj := hLj.ext x9
          replace k0j := x9.cell k0j
          replace k1j := x9.cell k1j
          replace v0 := x9.cell v0
          replace Y := Y.trans x9
          clear x9 v1 v2 v3
          go_wp2_with fail
          refine (HF8.out _ hPj hLj).mono ?_
          rintro e w10 ⟨rfl, x10⟩
          replace hPj := hPj.ext x10
          replace hLj := hLj.ext x10
          replace k0j := x10.cell k0j
          replace k1j := x10.cell k1j
          replace v0 := x10.cell v0
          replace Y := Y.trans x10
          clear x10
          rcases HCS.out with ⟨hT0, hx00, hy00, ha00, hb00, hh⟩ | ⟨hT0, hb0, hv0, hav, ⟨hd0, hd1⟩, hh4, hh8⟩
          · subst hT0 hx00 hy00 ha00 hb00
            go_wp2_with fail
            refine (HH.out 0 4 1000 (by omega) (by omega) (by omega) _ hPj hLj).mono ?_
            rintro e w11 ⟨rfl, x11⟩
            rw [hh]
            replace Y := Y.trans x11
            go_wp2
            go_ret
            exact ⟨rfl, X.trans Y⟩
          · have hTn : (T == 0) = false := beq_eq_false_iff_ne.2 (by omega)
            have g1 : 0 ≤ a * v := Int.mul_nonneg ha.1 hv.1
            have g2 : a * v ≤ 196608000000000000 := Int.mul_le_mul ha.2 hv.2 hv.1 (by omega)
            have g3 : 0 ≤ 2 * u * b := by omega
            have g4 : 2 * u * b ≤ 196608000000000000 := by omega
            have hbn : ¬ b ≤ 0 := by omega
            have hvn : ¬ v ≤ 0 := by omega
            have hbz : ¬ b = 0 := by omega
            go_wp2_with fail
            refine (HH.out lx 4 (a / b + 1) hlx (by omega) (by omega) _ hPj hLj).mono ?_
            rintro e w11 ⟨rfl, x11⟩
            rw [hh4]
            replace hPj := hPj.ext x11
            replace hLj := hLj.ext x11
            replace k0j := x11.cell k0j
            replace k1j := x11.cell k1j
            replace v0 := x11.cell v0
            replace Y := Y.trans x11
            go_wp2_with fail
            refine (HH.out lx 8 (a / b + 1) hlx (by omega) (by omega) _ hPj hLj).mono ?_
            rintro e w12 ⟨rfl, x12⟩
            rw [hh8]
            replace Y := Y.trans x12
            go_wp2
            go_ret
            exact ⟨rfl, X.trans Y⟩
theorem own : ownKnob Try.prog.godebug = none := by kernel_rfl
theorem laid : laidOutB Try.prog = true := fLaid
set_option maxRecDepth 100000 in
theorem lifted (os : Os) (started : os.Started) (H : Type) (enc : TypeId × Value → H) :
    ReturnsInHanded {} Try.checked os 6 .any (Rows.fnFramesSpec.pre6 enc Try.prog Try.f6 Rows.fnFramesRow.domain false) (Rows.fnFramesSpec.post enc Try.prog Try.f6 false true false false) := by
  refine returnsInHanded_of_change (C := Try.checked) own started (by kernel_rfl) Try.func6
    (ChangeSpec.witness6 (enc := enc) (C := Try.checked) false ⟨#[], #[.slice none 0 0], []⟩ 8 (by kernel_rfl) (by kernel_rfl) (by kernel_rfl) (by kernel_rfl)) ?_
  intro W base args ds gs before hval0 hW hcnd _
  have hval : ∀ (j : Nat) t v, Try.f6.params[j]? = some t → args[j]? = some v → Value.okWide Try.prog W .any base t v := hval0
  have hW' := hW
  obtain ⟨p, q, hA0, hV, rfl, hfz, hnd⟩ := hW
  have hA : DataW.TrodAll enc Try.prog W 0 (fun _ => true) true Try.f6.params.toList args.toList ds p := hA0
  rw [Try.params6] at hA hval
  obtain ⟨v0, vs0, d0, ds0, p0, q0, hargs, rfl, rfl, h0, r0⟩ := trodAll_cons hA
  obtain ⟨rfl, rfl, rfl⟩ := trodAll_nil r0
  obtain rfl : args = #[v0] := by cases args; simp_all
  obtain ⟨rfl, rfl⟩ := trodVars_none hV
  obtain ⟨A0, n0, c0, f0, rfl, i0, j0, k0⟩ := openB Try.underlying22 Try.underlying5 (by kernel_rfl) (hval 0 22 v0 rfl rfl) h0
  clear hA0 hval0
  refine (walk A0 n0 c0 f0 i0 j0 W k0).mono fun e W' ⟨he, hg⟩ => ?_
  subst he
  exact ⟨_, rfl, post_law (tb := 4) laid (by kernel_rfl) (by kernel_rfl) Try.underlying4 hW' rfl rfl rfl rfl hg⟩
set_option maxHeartbeats 4000000 in
set_option maxRecDepth 100000 in
theorem facts : joinedFacts Try.checked.prog 6 Try.f6 Rows.fnFramesSpec Rows.fnFramesRow = true := by
  unfold joinedFacts
  repeat' (with_reducible refine and_intro ?_ ?_)
  all_goals first | with_reducible exact fMayEnter | (with_reducible refine fLifted _ ?_; rfl) | (with_reducible refine fMake _ ?_; rfl) | (with_reducible exact fLaid) | (as_aux_lemma => kernel_rfl)
theorem over : Rows.fnFramesRow.holds Try.pinned (OpenSpec.ofChange Rows.fnFramesSpec) :=
  OpenClaim.holds_of_wide 6 Try.f6 rfl rfl rfl rfl rfl rfl rfl ⟨rfl, rfl, rfl, rfl, rfl⟩ rfl rfl rfl rfl rfl (by kernel_rfl) Try.func6 facts
    (of_decide_eq_true (by kernel_rfl)) (by unfold Func.isWrapper; first | (rw [if_pos (by decide +kernel)]; kernel_rfl) | (rw [if_neg (by decide +kernel)]; exact ⟨rfl, rfl⟩))
    (fun os started H enc _ => lifted os started H enc)
theorem proved : Rows.FnFramesSaid :=
  over
#print axioms proved
end Go.Proofs.Ytgmhmlhdiklaaaa.fnFrames
