/-
  The law FnLabels of the given program holds: for every input the Go function returns true and each argument reads afterwards as it read before. No conditions.
-/
import Derived.Test.YtgmhmlhdiklaaaaGreatDoorRows
import Derived.Test.YtgmhmlhdiklaaaaGreatDoorFactsZ
import Derived.Test.YtgmhmlhdiklaaaaGreatDoorCards
import Derived.Test.YtgmhmlhdiklaaaaGreatDoorTie
import Derived.ChangeVars
import Derived.LaidLaws
import Derived.Lay
import Derived.SevenTiedAt
import Derived.ChangeMaps5
import Derived.Stop.Joined
import Derived.Test.YtgmhmlhdiklaaaaGreatDoorLblL
import Derived.Test.YtgmhmlhdiklaaaaGreatDoorWdI
import Derived.Test.YtgmhmlhdiklaaaaGreatDoorPanM
import Derived.Test.YtgmhmlhdiklaaaaGreatDoorOrdM
import Derived.Test.YtgmhmlhdiklaaaaGreatDoorLabB
import Derived.Test.YtgmhmlhdiklaaaaGreatDoorAreM
import Derived.Test.YtgmhmlhdiklaaaaGreatDoorFacM
import Derived.Test.YtgmhmlhdiklaaaaGreatDoorCodeA
namespace Go.Proofs.YtgmhmlhdiklaaaaGreatDoor.fnLabels
open Go.ChangeShapes Go.WideShapes Go.ChangeAt Go.RowKit
set_option linter.unusedVariables false

set_option maxHeartbeats 16000000 in
set_option maxRecDepth 100000 in
theorem walk (A : Option Addr) (n c : Nat) (f : Nat → Int) (hnc : n ≤ c) (hcm : c ≤ 9223372036854775807) (w : World) (hr : BRecs w A n f) :
    Calls Tryz.prog 3 #[.slice A n c] w fun e w' => e = .returned (.bool true) ∧ Ext w w' := by
  by_cases hbig : 1048576 < n
  · have hd : decide (1048576 < n) = true := by simpa using hbig
    go_enter Tryz.func3, Tryz.ntmps3
    go_wp2_with fail
    refine (big_any A n c (by omega) w).mono ?_
    rintro e w1 ⟨rfl, x1⟩
    go_wp2
    go_ret
    exact ⟨rfl, x1⟩
  · have hd : decide (1048576 < n) = false := by simpa using hbig
    have hn20 : n ≤ 1048576 := by omega
    go_enter Tryz.func3, Tryz.ntmps3
    go_wp2_with fail
    refine (big_any A n c (by omega) w).mono ?_
    rintro e w1 ⟨rfl, x1⟩
    clear hd hbig
    go_wp2_with fail
    refine (DrawWhole_any A n c f hnc hcm hn20 _ (hr.ext x1)).mono ?_
    rintro e w2 ⟨A1, n1, c1, zs, B1, m1, d1, ys, rfl, ho, hw, x2⟩
    have hwin := (wholeB_get hw).1
    obtain ⟨hsz, hNo, _⟩ := winB_get hwin
    obtain ⟨gP, rfl⟩ := ho.2.2.2.2.1.some_ (by omega)
    have hi1 := ho.1
    have hi2 := ho.2.1
    have hi3 := ho.2.2.1
    have hi4 := ho.2.2.2.1
    have X := x1.trans x2
    have hB := hr.ext X
    have hP := ho.recsP
    have hL := ho.recsL
    generalize FW zs = P at *
    generalize FW ys = L at *
    clear ho hr x1 x2
    have x3 : Ext w2 (w2.alloc (.cells #[.slice (some ⟨gP, 0, none⟩) n1 c1, .slice B1 m1 d1] 27)) := (Ext.refl _).alloc _
    have k0 : (w2.alloc (.cells #[.slice (some ⟨gP, 0, none⟩) n1 c1, .slice B1 m1 d1] 27)).cell? ⟨w2.heap.size, 0, none⟩ = some (.slice (some ⟨gP, 0, none⟩) n1 c1) := by simp [go_sem]
    have k1 : (w2.alloc (.cells #[.slice (some ⟨gP, 0, none⟩) n1 c1, .slice B1 m1 d1] 27)).cell? ⟨w2.heap.size, 1, none⟩ = some (.slice B1 m1 d1) := by simp [go_sem]
    replace X := X.trans x3
    replace hB := hB.ext x3
    replace hP := hP.ext x3
    replace hL := hL.ext x3
    clear x3
    go_wp2_with fail
    generalize w2.alloc (.cells #[.slice (some ⟨gP, 0, none⟩) n1 c1, .slice B1 m1 d1] 27) = w3 at *
    generalize w2.heap.size = t at *
    obtain ⟨o, ho, eo, hlen, hNF20, hall, hfall, hno, hlo, hat, hfn⟩ := labels_law hw
    have HRO := Lib.hid (fun W (hP : Recs W 2 (some ⟨gP, 0, none⟩) n1 P) (hL : Recs W 2 B1 m1 L) => impl_ReadingOrder (some ⟨gP, 0, none⟩) n1 c1 P B1 m1 d1 L hi1 hi2 hi3 hi4 W hP hL)
    have HFS := Lib.hid (fun W (hP : Recs W 2 (some ⟨gP, 0, none⟩) n1 P) (hL : Recs W 2 B1 m1 L) => spec_FacesOf (some ⟨gP, 0, none⟩) n1 c1 P B1 m1 d1 L hi1 hi2 hi3 hi4 W hP hL)
    have HLA := Lib.hid (fun f (hf : 0 ≤ f ∧ f ≤ 1000) W (hP : Recs W 2 (some ⟨gP, 0, none⟩) n1 P) (hL : Recs W 2 B1 m1 L) => impl_LabelOf (some ⟨gP, 0, none⟩) n1 c1 P B1 m1 d1 L hi1 hi2 hi3 hi4 f (by omega) W hP hL)
    have HNU := Lib.hid (fun f (hf : 0 ≤ f ∧ f ≤ 1000) W (hP : Recs W 2 (some ⟨gP, 0, none⟩) n1 P) (hL : Recs W 2 B1 m1 L) => impl_NumberOf (some ⟨gP, 0, none⟩) n1 c1 P B1 m1 d1 L hi1 hi2 hi3 hi4 f (by omega) W hP hL)
    have HFN := Lib.hid (fun f (hf : 0 ≤ f ∧ f ≤ 1000) W (hP : Recs W 2 (some ⟨gP, 0, none⟩) n1 P) (hL : Recs W 2 B1 m1 L) => impl_FaceWithNumber (some ⟨gP, 0, none⟩) n1 c1 P B1 m1 d1 L hi1 hi2 hi3 hi4 f (by omega) W hP hL)
    have HFL := Lib.hid (fun (s : ByteArray) W (hP : Recs W 2 (some ⟨gP, 0, none⟩) n1 P) (hL : Recs W 2 B1 m1 L) => impl_FaceWithLabel (some ⟨gP, 0, none⟩) n1 c1 P B1 m1 d1 L hi1 hi2 hi3 hi4 s W hP hL)
    have HPB := Lib.hid (fun f (hf : 0 ≤ f ∧ f ≤ 1000) W (hP : Recs W 2 (some ⟨gP, 0, none⟩) n1 P) (hL : Recs W 2 B1 m1 L) => (by exact spec_PaneBox (some ⟨gP, 0, none⟩) n1 c1 P B1 m1 d1 L hi1 hi2 hi3 hi4 f (by omega) W hP hL : Calls Tryz.prog 13 #[.agg #[.slice (some ⟨gP, 0, none⟩) n1 c1, .slice B1 m1 d1], .int .i64 f] W fun e w' => e = .returned (.tuple #[.agg #[.int .i64 (loN n1 P m1 L f 0), .int .i64 (loN n1 P m1 L f 1)], .agg #[.int .i64 (hiN n1 P m1 L f 0), .int .i64 (hiN n1 P m1 L f 1)]]) ∧ Ext W w'))
    have HOF := Lib.hid (fun W (hP : Recs W 2 (some ⟨gP, 0, none⟩) n1 P) (hL : Recs W 2 B1 m1 L) => (by have q := spec_OuterFace (some ⟨gP, 0, none⟩) n1 c1 P B1 m1 d1 L hi1 hi2 hi3 hi4 W hP hL; rw [eo] at q; exact q : Calls Tryz.prog 12 #[.agg #[.slice (some ⟨gP, 0, none⟩) n1 c1, .slice B1 m1 d1]] W fun e w' => e = .returned (.int .i64 (o : Int)) ∧ Ext W w'))
    have HNO := Lib.hid (fun W (hP : Recs W 2 (some ⟨gP, 0, none⟩) n1 P) (hL : Recs W 2 B1 m1 L) => (by have q := HNU.out (o : Int) (by omega) W hP hL; rw [hno] at q; exact q : Calls Tryz.prog 9 #[.agg #[.slice (some ⟨gP, 0, none⟩) n1 c1, .slice B1 m1 d1], .int .i64 (o : Int)] W fun e w' => e = .returned (.int .i64 0) ∧ Ext W w'))
    have HLO := Lib.hid (fun W (hP : Recs W 2 (some ⟨gP, 0, none⟩) n1 P) (hL : Recs W 2 B1 m1 L) => (by have q := HLA.out (o : Int) (by omega) W hP hL; rw [hlo] at q; exact q : Calls Tryz.prog 8 #[.agg #[.slice (some ⟨gP, 0, none⟩) n1 c1, .slice B1 m1 d1], .int .i64 (o : Int)] W fun e w' => e = .returned (.string ⟨#[]⟩) ∧ Ext W w'))
    have HFE := Lib.hid (fun W (hP : Recs W 2 (some ⟨gP, 0, none⟩) n1 P) (hL : Recs W 2 B1 m1 L) => (by have q := HFL.out ⟨#[]⟩ W hP hL; rw [hfn] at q; exact q : Calls Tryz.prog 11 #[.agg #[.slice (some ⟨gP, 0, none⟩) n1 c1, .slice B1 m1 d1], .string ⟨#[]⟩] W fun e w' => e = .returned (.int .i64 (-1)) ∧ Ext W w'))
    have HNE := Lib.hid (fun W (hP : Recs W 2 (some ⟨gP, 0, none⟩) n1 P) (hL : Recs W 2 B1 m1 L) => (by have q := HFN.out (((facesV n1 P m1 L).length : Nat) : Int) (by omega) W hP hL; rw [hat] at q; exact q : Calls Tryz.prog 10 #[.agg #[.slice (some ⟨gP, 0, none⟩) n1 c1, .slice B1 m1 d1], .int .i64 (((facesV n1 P m1 L).length : Nat) : Int)] W fun e w' => e = .returned (.int .i64 (-1)) ∧ Ext W w'))
    have HALL := Lib.hid hall
    have HFALL := Lib.hid hfall
    clear hw eo hall hfall hno hlo hat hfn hNo hB
    refine (HRO.out _ hP hL).mono ?_
    rintro e w4 ⟨Al, cl, rfl, il, jl, ml, x4⟩
    have rl := ml.recs
    clear ml HRO
    replace hP := hP.ext x4
    replace hL := hL.ext x4
    replace k0 := x4.cell k0
    replace k1 := x4.cell k1
    replace X := X.trans x4
    clear x4
    go_wp2_with fail
    refine (HFS.out _ hP hL).mono ?_
    rintro e w5 ⟨Af, cf, rfl, _, _, _, x5⟩
    replace hP := hP.ext x5
    replace hL := hL.ext x5
    replace rl := rl.ext x5
    replace k0 := x5.cell k0
    replace k1 := x5.cell k1
    replace X := X.trans x5
    clear x5 HFS
    obtain ⟨l, hl⟩ : ∃ l, l = readV n1 P m1 L := ⟨_, rfl⟩
    rw [← hl] at rl hlen HALL HFALL
    rw [← hl]
    clear hl
    generalize (facesV n1 P m1 L).length = NF at *
    obtain ⟨N, hN⟩ : ∃ N, N = l.length := ⟨_, rfl⟩
    rw [← hN] at rl hlen HALL HFALL
    rw [← hN]
    have HNN := Lib.hid hN
    clear hN
    have hcmp : ((N : Int) != (NF : Int) - 1) = false := by rw [show (NF : Int) - 1 = N by omega]; simp
    go_wp2
    go_loopw [6, 7, 8, 9, 10, 11, 12] (fun s6 _ _ _ _ _ _ wr => ∃ j : Nat, j ≤ N ∧ s6 = .int .i64 j ∧ Ext w5 wr) (fun s6 _ _ _ _ _ _ _ => N - (intOf s6).toNat)
    case atStart => exact ⟨0, Nat.zero_le _, rfl, Ext.refl _⟩
    case round =>
      clear hcmp
      obtain ⟨j, hj, rfl, Y⟩ := hrel
      have hPj := hP.ext Y
      have hLj := hL.ext Y
      have rlj := rl.ext Y
      have k0j := Y.cell k0
      have k1j := Y.cell k1
      by_cases hlt : j < N
      · clear hP hL rl k0 k1
        obtain ⟨fk, lb, efk, hfk, hfo, hnu, hfa, hla, hfl, hs1, hs2⟩ := HALL.out j hlt
        obtain ⟨bl, ol, rfl, _, v0⟩ := rlj.at1 hlt
        rw [ix_nums (by rw [← HNN.out]; exact hlt), efk] at v0
        have HLQ := HLA.out (fk : Int) (by omega)
        rw [hla] at HLQ
        replace HLQ := Lib.hid HLQ
        have HNQ := HNU.out (fk : Int) (by omega)
        rw [hnu] at HNQ
        replace HNQ := Lib.hid HNQ
        have HFQ := HFN.out ((j : Int) + 1) (by omega)
        rw [hfa] at HFQ
        replace HFQ := Lib.hid HFQ
        have HSQ := HFL.out lb
        rw [hfl] at HSQ
        replace HSQ := Lib.hid HSQ
        clear hla hnu hfa hfl
        have e1 : (0 : Int) ≤ (j : Int) := by omega
        have e2 : (j : Int) < (N : Int) := by omega
        have hs3 : ¬ (lb.size : Int) < 2 := by omega
        have hfo2 : ((fk : Int) == (o : Int)) = false := beq_eq_false_iff_ne.2 hfo
        go_wp2_with fail
        refine (HLQ.out _ hPj hLj).mono ?_
        rintro e wa ⟨rfl, xa⟩
        replace hPj := hPj.ext xa
        replace hLj := hLj.ext xa
        replace rlj := rlj.ext xa
        replace k0j := xa.cell k0j
        replace k1j := xa.cell k1j
        replace Y := Y.trans xa
        clear xa
        go_wp2_with fail
        refine (HNQ.out _ hPj hLj).mono ?_
        rintro e wb ⟨rfl, xb⟩
        replace hPj := hPj.ext xb
        replace hLj := hLj.ext xb
        replace rlj := rlj.ext xb
        replace k0j := xb.cell k0j
        replace k1j := xb.cell k1j
        replace Y := Y.trans xb
        clear xb
        go_wp2_with fail
        refine (HFQ.out _ hPj hLj).mono ?_
        rintro e wc ⟨rfl, xc⟩
        replace hPj := hPj.ext xc
        replace hLj := hLj.ext xc
        replace rlj := rlj.ext xc
        replace k0j := xc.cell k0j
        replace k1j := xc.cell k1j
        replace Y := Y.trans xc
        clear xc
        go_wp2_with fail
        refine (HSQ.out _ hPj hLj).mono ?_
        rintro e wd ⟨rfl, xd⟩
        replace hPj := hPj.ext xd
        replace hLj := hLj.ext xd
        replace rlj := rlj.ext xd
        replace k0j := xd.cell k0j
        replace k1j := xd.cell k1j
        replace Y := Y.trans xd
        clear xd
        go_wp2_with fail
        refine (HOF.out _ hPj hLj).mono ?_
        rintro e we ⟨rfl, xe⟩
        replace hPj := hPj.ext xe
        replace hLj := hLj.ext xe
        replace rlj := rlj.ext xe
        replace k0j := xe.cell k0j
        replace k1j := xe.cell k1j
        replace Y := Y.trans xe
        clear xe
        clear HLQ HNQ HFQ HSQ v0
        by_cases hj0 : j = 0
        · subst hj0
          go_wp2
          go_roundw
          case rel => exact ⟨1, by omega, rfl, Y⟩
          case measure => simp [intOf]; omega
        · obtain ⟨i, hij⟩ : ∃ i, j = i + 1 := ⟨j - 1, by omega⟩
          obtain ⟨fp, lp, efp, hfp, _, _, _, _, _, _, _⟩ := HALL.out i (by omega)
          have hfl := HFALL.out i (by omega)
          rw [← hij, efk, efp] at hfl
          have v1 := rlj.cell1 (k := i) (by omega)
          rw [ix_nums (by rw [← HNN.out]; omega), efp] at v1
          have HPP := HPB.out (fp : Int) (by omega)
          have HPQ := HPB.out (fk : Int) (by omega)
          clear efk efp
          generalize loN n1 P m1 L (fp : Int) 0 = a0 at *
          generalize loN n1 P m1 L (fp : Int) 1 = a1 at *
          generalize hiN n1 P m1 L (fp : Int) 0 = a2 at *
          generalize hiN n1 P m1 L (fp : Int) 1 = a3 at *
          generalize loN n1 P m1 L (fk : Int) 0 = b0 at *
          generalize loN n1 P m1 L (fk : Int) 1 = b1 at *
          generalize hiN n1 P m1 L (fk : Int) 0 = b2 at *
          generalize hiN n1 P m1 L (fk : Int) 1 = b3 at *
          replace HPP := Lib.hid HPP
          replace HPQ := Lib.hid HPQ
          have hgt : ¬ a3 < b3 := by omega
          have hi0 : (0 : Int) < (j : Int) := by omega
          have hi1 : (j : Int) - 1 = (i : Int) := by omega
          have hi4 : IntKind.i64.wrap (i : Int) = (i : Int) := IntWalk.i64_in _ (by omega)
          have hi5 : IntKind.i64.wrap ((j : Int) - 1) = (i : Int) := by rw [hi1]; exact hi4
          clear hij hj0
          have hi2 : (0 : Int) ≤ (i : Int) := by omega
          have hi3 : (i : Int) < (N : Int) := by omega
          go_upto_region 16 with fail
          go_cut [9, 10] from 73 to 83 (fun s9 s10 wx => ∃ g9 g10 : Nat, s9 = .pointer (some ⟨g9, 0, none⟩) ∧ s10 = .pointer (some ⟨g10, 0, none⟩) ∧ Ext we wx ∧ wx.cell? ⟨g10, 1, none⟩ = some (.int .i64 a3))
          case first =>
            go_region_held3 (fun w' => w'.cell? ⟨t, 0, none⟩ = some (.slice (some ⟨gP, 0, none⟩) n1 c1) ∧ w'.cell? ⟨t, 1, none⟩ = some (.slice B1 m1 d1) ∧ w'.cell? ⟨bl, ol + i, none⟩ = some (.int .i64 (fp : Int))) (exact (fun (Z : Ext we _) => ⟨Z.cell k0j, Z.cell k1j, Z.cell v1⟩) (by repeat (first | with_reducible exact Ext.refl _ | with_reducible exact Xa | with_reducible apply Ext.drew | with_reducible apply Ext.alloc | with_reducible (refine Ext.setCell ?_ (by first | (simp; done) | (simp; omega)) _)))) (first
              | (go_at_call 13; refine (HPP.out _ (hPj.ext (show Ext we _ by repeat (first | with_reducible exact Ext.refl _ | with_reducible exact Xa | with_reducible apply Ext.drew | with_reducible apply Ext.alloc | with_reducible (refine Ext.setCell ?_ (by first | (simp; done) | (simp; omega)) _)))) (hLj.ext (show Ext we _ by repeat (first | with_reducible exact Ext.refl _ | with_reducible exact Xa | with_reducible apply Ext.drew | with_reducible apply Ext.alloc | with_reducible (refine Ext.setCell ?_ (by first | (simp; done) | (simp; omega)) _))))).mono ?_; rintro e wa ⟨rfl, xa⟩; have Xa : Ext we _ := Ext.trans (by repeat (first | with_reducible exact Ext.refl _ | with_reducible exact Xa | with_reducible apply Ext.drew | with_reducible apply Ext.alloc | with_reducible (refine Ext.setCell ?_ (by first | (simp; done) | (simp; omega)) _))) xa; have Za := Xa.size; (try (refine (fun (ha00 : wa.cell? ⟨we.heap.size, 0, none⟩ = some (.int .i64 0)) => ?_) ?_; rotate_left; (refine xa.cell ?_; (first | (focus (simp [go_sem]; done)) | (focus (simp [go_sem, *]; done)))))); (try (refine (fun (ha0f0 : wa.frozen? ⟨we.heap.size, 0, none⟩ = false) => ?_) ?_; rotate_left; (refine xa.frozen (u := .int .i64 0) ?_ ?_; (first | (focus (simp [go_sem]; done)) | (focus (simp [go_sem, *]; done))); (first | (focus (simp [go_sem]; done)) | (focus (simp [go_sem, *]; done)))))); (try (refine (fun (ha01 : wa.cell? ⟨we.heap.size, 1, none⟩ = some (.int .i64 0)) => ?_) ?_; rotate_left; (refine xa.cell ?_; (first | (focus (simp [go_sem]; done)) | (focus (simp [go_sem, *]; done)))))); (try (refine (fun (ha0f1 : wa.frozen? ⟨we.heap.size, 1, none⟩ = false) => ?_) ?_; rotate_left; (refine xa.frozen (u := .int .i64 0) ?_ ?_; (first | (focus (simp [go_sem]; done)) | (focus (simp [go_sem, *]; done))); (first | (focus (simp [go_sem]; done)) | (focus (simp [go_sem, *]; done)))))); (try (have ha0l : we.heap.size < wa.heap.size := World.block_lt_of_cell? _ _ ha00; have ha0l1 : we.heap.size < wa.heap.size + 1 := Nat.lt_succ_of_lt ha0l; have ha0l2 : we.heap.size < wa.heap.size + 1 + 1 := Nat.lt_succ_of_lt ha0l1)); (try (refine (fun (ha10 : wa.cell? ⟨we.heap.size + 1, 0, none⟩ = some (.int .i64 0)) => ?_) ?_; rotate_left; (refine xa.cell ?_; (first | (focus (simp [go_sem]; done)) | (focus (simp [go_sem, *]; done)))))); (try (refine (fun (ha1f0 : wa.frozen? ⟨we.heap.size + 1, 0, none⟩ = false) => ?_) ?_; rotate_left; (refine xa.frozen (u := .int .i64 0) ?_ ?_; (first | (focus (simp [go_sem]; done)) | (focus (simp [go_sem, *]; done))); (first | (focus (simp [go_sem]; done)) | (focus (simp [go_sem, *]; done)))))); (try (refine (fun (ha11 : wa.cell? ⟨we.heap.size + 1, 1, none⟩ = some (.int .i64 0)) => ?_) ?_; rotate_left; (refine xa.cell ?_; (first | (focus (simp [go_sem]; done)) | (focus (simp [go_sem, *]; done)))))); (try (refine (fun (ha1f1 : wa.frozen? ⟨we.heap.size + 1, 1, none⟩ = false) => ?_) ?_; rotate_left; (refine xa.frozen (u := .int .i64 0) ?_ ?_; (first | (focus (simp [go_sem]; done)) | (focus (simp [go_sem, *]; done))); (first | (focus (simp [go_sem]; done)) | (focus (simp [go_sem, *]; done)))))); (try (have ha1l : we.heap.size + 1 < wa.heap.size := World.block_lt_of_cell? _ _ ha10; have ha1l1 : we.heap.size + 1 < wa.heap.size + 1 := Nat.lt_succ_of_lt ha1l; have ha1l2 : we.heap.size + 1 < wa.heap.size + 1 + 1 := Nat.lt_succ_of_lt ha1l1))))
            all_goals
              go_wp2_with fail
              go_meet
              refine ⟨_, _, rfl, rfl, ?_, ?_⟩
              all_goals first | (focus ((repeat (first | with_reducible exact Ext.refl _ | with_reducible exact Xa | with_reducible apply Ext.drew | with_reducible apply Ext.alloc | with_reducible (refine Ext.setCell ?_ (by first | (simp; done) | (simp; omega)) _))); done)) | (focus (simp [go_sem]; done)) | (focus (simp [go_sem, *]; done)) | (focus (simp [go_sem, *]; omega))
          case rest =>
            obtain ⟨g9, g10, rfl, rfl, Xc, v10⟩ := hcut
            replace hPj := hPj.ext Xc
            replace hLj := hLj.ext Xc
            replace k0j := Xc.cell k0j
            replace k1j := Xc.cell k1j
            replace Y := Y.trans Xc
            clear Xc HPP v1 rlj
            go_wp2_with fail
            refine (HPQ.out _ hPj hLj).mono ?_
            rintro e wg ⟨rfl, xg⟩
            replace v10 := xg.cell v10
            replace Y := Y.trans xg
            have g1 := World.block_lt_of_cell? _ _ v10
            have g2 := Nat.lt_succ_of_lt g1
            have g3 := Nat.lt_succ_of_lt g2
            clear xg HPQ hPj hLj k0j k1j
            go_wp2
            go_roundw
            case rel => exact ⟨j + 1, by omega, by go_num, by
              refine Ext.trans Y ?_
              repeat (first | with_reducible exact Ext.refl _ | with_reducible exact Xa | with_reducible apply Ext.drew | with_reducible apply Ext.alloc | with_reducible (refine Ext.setCell ?_ (by first | (simp; done) | (simp; omega)) _))⟩
            case measure => simp [intOf]; omega
      · obtain rfl : N = j := by omega
        clear hP hL rl k0 k1 rlj
        go_wp2_with fail
        first | refine wp_region_gr2 (by kernel_rfl) (by kernel_rfl) ?_ | refine wp_region_gr (by kernel_rfl) (by kernel_rfl) ?_
        repeat (go_big_quiet_step ((first | (go_at_call 12; exact gr_of (HOF.out _ (hPj.ext (Ext.gr _ _)) (hLj.ext (Ext.gr _ _)))) | (go_at_call 9; exact gr_of (HNO.out _ (hPj.ext (Ext.gr _ _)) (hLj.ext (Ext.gr _ _)))) | (go_at_call 8; exact gr_of (HLO.out _ (hPj.ext (Ext.gr _ _)) (hLj.ext (Ext.gr _ _)))) | (go_at_call 10; exact gr_of (HNE.out _ (hPj.ext (Ext.gr _ _)) (hLj.ext (Ext.gr _ _)))) | (go_at_call 11; exact gr_of (HFE.out _ (hPj.ext (Ext.gr _ _)) (hLj.ext (Ext.gr _ _)))))))
        refine wpQuiet_nil ?_
        intro _ hw'
        obtain ⟨gq, hw''⟩ := hw'
        subst hw''
        go_wp2
        go_ret
        exact ⟨rfl, X.trans (Y.trans (Ext.gr _ gq))⟩
theorem own : ownKnob Tryz.prog.godebug = none := by kernel_rfl
theorem laid : laidOutB Tryz.prog = true := fLaid
theorem laid_met (os : Os) (args : Array Value) : laidMet Tryz.prog Rows.fnLabelsRow.laid ((World.laidAll Tryz.prog os Rows.fnLabelsRow.laid).forCall (fun _ _ => 0) ⟨#[], args, []⟩).memory := laidMet_laidAll _ (by kernel_rfl) (by kernel_rfl)
set_option maxRecDepth 100000 in
theorem lifted (os : Os) (started : os.Started) (H : Type) (enc : TypeId × Value → H) :
    ReturnsInHanded {} Tryz.checked os 3 .any (fun w args => (Rows.fnLabelsSpec.pre enc Tryz.prog Tryz.f3 Rows.fnLabelsRow.domain false w args ∧ laidMet Tryz.prog Rows.fnLabelsRow.laid w) ∧ sizedMet enc Tryz.prog Tryz.f3 (OpenSpec.ofChange Rows.fnLabelsSpec) false w args) (Rows.fnLabelsSpec.post enc Tryz.prog Tryz.f3 false true false false) := by
  refine returnsInHanded_of_change_and (C := Tryz.checked) (X := fun w _ => laidMet Tryz.prog Rows.fnLabelsRow.laid w) (fun _ _ _ hh h => h.of_heap hh) own started (by kernel_rfl) Tryz.func3
    (ChangeSpec.witness_at (enc := enc) (C := Tryz.checked) (os := os) (X := fun w _ => laidMet Tryz.prog Rows.fnLabelsRow.laid w) false (World.laidAll Tryz.prog os Rows.fnLabelsRow.laid) #[.slice none 0 0] 8 rfl (by kernel_rfl) (by kernel_rfl) (by kernel_rfl) (by kernel_rfl) (by kernel_rfl) (laid_met os _)) ?_
  intro W base args ds gs before hval0 hW hcnd _ hL _
  have hval : ∀ (j : Nat) t v, Tryz.f3.params[j]? = some t → args[j]? = some v → Value.okWide Tryz.prog W .any base t v := hval0
  have hW' := hW
  obtain ⟨p, q, hA0, hV, rfl, hfz, hnd⟩ := hW
  have hA : DataW.TrodAll enc Tryz.prog W 0 (fun _ => true) true Tryz.f3.params.toList args.toList ds p := hA0
  rw [Tryz.params3] at hA hval
  obtain ⟨v0, vs0, d0, ds0, p0, q0, hargs, rfl, rfl, h0, r0⟩ := trodAll_cons hA
  obtain ⟨rfl, rfl, rfl⟩ := trodAll_nil r0
  obtain rfl : args = #[v0] := by cases args; simp_all
  obtain ⟨rfl, rfl⟩ := trodVars_none hV
  obtain ⟨A0, n0, c0, f0, rfl, i0, j0, k0⟩ := openB Tryz.underlying22 Tryz.underlying5 (by kernel_rfl) (hval 0 22 v0 rfl rfl) h0
  clear hA0 hval0
  refine (walk A0 n0 c0 f0 i0 j0 W k0).mono fun e W' ⟨he, hg⟩ => ?_
  subst he
  exact ⟨_, rfl, post_law (tb := 4) laid (by kernel_rfl) (by kernel_rfl) Tryz.underlying4 hW' rfl rfl rfl rfl hg⟩
set_option maxHeartbeats 4000000 in
set_option maxRecDepth 100000 in
theorem facts : joinedFacts Tryz.checked.prog 3 Tryz.f3 Rows.fnLabelsSpec Rows.fnLabelsRow = true := by
  unfold joinedFacts
  repeat' (with_reducible refine and_intro ?_ ?_)
  all_goals first | with_reducible exact fMayEnter | (with_reducible refine fLifted _ ?_; rfl) | (with_reducible refine fMake _ ?_; rfl) | (with_reducible exact fLaid) | (as_aux_lemma => kernel_rfl)
theorem over : Rows.fnLabelsRow.holds Tryz.pinned (OpenSpec.ofChange Rows.fnLabelsSpec) :=
  OpenClaim.holds_of_wide 3 Tryz.f3 rfl rfl rfl rfl rfl rfl rfl ⟨rfl, rfl, rfl, rfl, rfl⟩ rfl rfl rfl rfl rfl (by kernel_rfl) Tryz.func3 facts
    (of_decide_eq_true (by kernel_rfl)) (by unfold Func.isWrapper; first | (rw [if_pos (by decide +kernel)]; kernel_rfl) | (rw [if_neg (by decide +kernel)]; exact ⟨rfl, rfl⟩))
    (fun os started H enc _ => lifted os started H enc)
set_option maxRecDepth 100000 in
theorem proved : Rows.FnLabelsCardSaid :=
  Claim7.holds_tied_plain_at .later [] [.data, .data, .data] true (true, "e8884ed43bb8d071c2abc0c3f37a18634495be93f6a3e231b49ee8bfe1bc847a") false
    over (fun _ h => by cases h) (by kernel_rfl) (fun _ h => by cases h) fnLabels_row_tie rfl ⟨rfl, rfl⟩ (by kernel_rfl) rfl
    (fun f fn hf hfn => by
      obtain rfl : f = 3 := Option.some.inj ((show Tryz.prog.funcNamed "loop.example/g03303/laws.FnLabels" = some 3 by kernel_rfl).symm.trans hf) |>.symm
      obtain rfl : fn = Tryz.f3 := (Option.some.inj (Tryz.func3.symm.trans hfn)).symm
      exact ⟨by kernel_rfl, fun j t ht => by
        rw [Tryz.params3] at ht
        match j with
        | 0 => (obtain rfl : 22 = t := by simpa using ht); exact (show Tryz.prog.wantsStandIn 22 = false by kernel_rfl)
        | j + 1 => simp at ht⟩)
    (by kernel_rfl)
#print axioms proved
end Go.Proofs.YtgmhmlhdiklaaaaGreatDoor.fnLabels
