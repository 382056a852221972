/-
  Texts of one kind, one behind the other: LabS LblS. No conditions.
-/
import Derived.Laws.DeepStrings4
import Derived.Deep.DeepCutAuto
import Derived.Deep.CutRange
import Derived.Deep.DrawnRows
import Derived.RowKit3
import Derived.Test.YtbbbgegmkmmjkaaGreatDoorLabA
import Derived.Test.YtbbbgegmkmmjkaaGreatDoorOrdM
import Derived.Test.YtbbbgegmkmmjkaaGreatDoorSmallV
/- LabS -/
namespace Go.Proofs.YtbbbgegmkmmjkaaGreatDoor
open Go.RowKit Ring
set_option linter.unusedVariables false

attribute [local go_sem ↓] Go.wp_at_zero Go.wp_at_succ
attribute [local go_sem, local simp] Go.World.cell?_alloc_some Go.World.frozen?_alloc_past

theorem abc_slice (r : Nat) (h : r ≤ 20) (i j : Int) (hi : i = r) (hj : j = (r : Int) + 1) (W : World) : (Instr.slice 9 (.string ⟨#[97, 98, 99, 100, 101, 102, 103, 104, 105, 106, 107, 108, 109, 110, 111, 112, 113, 114, 115, 116, 117, 118, 119, 120, 121, 122]⟩) (some (.int .i64 i)) (some (.int .i64 j)) none).run Tryz.prog W = .ok (.string ⟨#[UInt8.ofNat (97 + r)]⟩) W := by
  subst hi hj
  have e : ((⟨#[97, 98, 99, 100, 101, 102, 103, 104, 105, 106, 107, 108, 109, 110, 111, 112, 113, 114, 115, 116, 117, 118, 119, 120, 121, 122]⟩ : ByteArray).size : Int) = 26 := rfl
  rw [run_slice_string_if (h := Tryz.underlying9), if_pos (by rw [e]; omega), if_pos (by omega), show ((r : Nat) : Int).toNat = r by omega, show (((r : Nat) : Int) + 1).toNat = r + 1 by omega, cut_letter r h]
set_option maxRecDepth 100000 in
set_option maxHeartbeats 8000000 in
theorem spec_l30Labels (A : Option Addr) (n c : Nat) (P : Nat → Nat → Int) (B : Option Addr) (m d : Nat) (L : Nat → Nat → Int) (hnc : n ≤ c) (hcm : c ≤ 9223372036854775807) (hmd : m ≤ d) (hdm : d ≤ 9223372036854775807) (A2 : Option Addr) (c2 : Nat) (h2a : (readV n P m L).length ≤ c2) (h2b : c2 ≤ 9223372036854775807) (w : World) (hr : Recs w 2 A n P) (hs : Recs w 2 B m L) (hrow : Recs w 1 A2 (readV n P m L).length (fun k _ => ix (nums (readV n P m L)) k)) :
    Calls Tryz.prog 15 #[.agg #[.slice A n c, .slice B m d], .slice A2 (readV n P m L).length c2] w (PostT w (readV n P m L).length (labsV n P m L)) := by
  have HBX : Hid (∀ W, Ext w W → ∀ f : Nat, f < 1000 → Calls Tryz.prog 28 #[.agg #[.slice A n c, .slice B m d], .int .i64 (f : Int)] W fun e w' => e = .returned (.tuple #[.agg #[.int .i64 (loN n P m L f 0), .int .i64 (loN n P m L f 1)], .agg #[.int .i64 (hiN n P m L f 0), .int .i64 (hiN n P m L f 1)]]) ∧ Ext W w') := Lib.hid (fun W Z f hf => spec_PaneBox A n c P B m d L hnc hcm hmd hdm f (by omega) W (hr.ext Z) (hs.ext Z))
  have HFI := Lib.hid (fun k h1 h2 W => spec_FormatInt k h1 h2 W)
  have hl20 := readV_len (n := n) (m := m) (P := P) (L := L)
  have HLT := Lib.hid (fun j (hj : j < (readV n P m L).length) => readV_lt (n := n) (m := m) (P := P) (L := L) (f := (readV n P m L).getD j 0) (by rw [List.getD_eq_getElem?_getD, List.getElem?_eq_getElem hj]; exact List.getElem_mem hj))
  have HT := Lib.hid (fun t => show topT n P m L t = hiN n P m L (((readV n P m L).getD t 0 : Nat) : Int) 1 from rfl)
  have HTR := Lib.hid (fun t => show 0 ≤ topT n P m L t ∧ topT n P m L t ≤ 20 from (lohi_rng _ (by omega)).2)
  have HLV := Lib.hid (show labsV n P m L = labsT (topT n P m L) (readV n P m L).length from rfl)
  have HROW := Lib.hid hrow
  clear hr hs hrow
  generalize readV n P m L = l at *
  generalize hiN n P m L = hi at *
  generalize loN n P m L = lo at *
  generalize topT n P m L = T at *
  generalize labsV n P m L = lv at *
  have Q00 : Hid ((w.alloc (.cells #[.slice A n c, .slice B m d] 31)).cell? ⟨w.heap.size, 0, none⟩ = some (.slice A n c)) := Lib.hid (by simp [go_sem])
  have Q11 : Hid ((w.alloc (.cells #[.slice A n c, .slice B m d] 31)).cell? ⟨w.heap.size, 1, none⟩ = some (.slice B m d)) := Lib.hid (by simp [go_sem])
  have hm0 : MineT (w.heap.size + 1) ((w.alloc (.cells #[.slice A n c, .slice B m d] 31)).alloc (.cells #[] 9)) (.slice (some ⟨w.heap.size + 1, 0, none⟩) 0 0) (labsT T 0).length (labsT T 0) := by
    have := MineT.lit0 (w.alloc (.cells #[.slice A n c, .slice B m d] 31))
    simpa [labsT] using this
  go_enter Tryz.func15, Tryz.ntmps15
  go_wp2_with fail
  go_loopw [5, 6, 7, 8] (fun v r k i wr => ∃ t : Nat, t ≤ l.length ∧ r = .int .i64 (rs T t) ∧ k = .int .i64 (nz T t) ∧ i = .int .i64 t ∧ Ext (w.alloc (.cells #[.slice A n c, .slice B m d] 31)) wr ∧ MineT (w.heap.size + 1) wr v (labsT T t).length (labsT T t)) (fun _ _ _ i _ => l.length - (intOf i).toNat)
  case atStart => exact ⟨0, Nat.zero_le _, rfl, rfl, rfl, (Ext.refl _).alloc _, hm0⟩
  case round =>
    clear hm0
    obtain ⟨t, ht, rfl, rfl, rfl, X, hm⟩ := hrel
    have q0 := X.cell Q00.out
    have q1 := X.cell Q11.out
    have XW := ((Ext.refl w).alloc (.cells #[.slice A n c, .slice B m d] 31)).trans X
    have hll := labsT_len T t
    have hbz := X.size
    rw [World.size_alloc] at hbz
    by_cases hlt : t < l.length
    · obtain ⟨bG, oG, rfl, hbG, hcG⟩ := HROW.out.at1 hlt
      rw [nums_ix] at hcG
      replace hcG := XW.cell hcG
      have hf := HLT.out t hlt
      have hTt := HT.out t
      have hTR := HTR.out t
      have HSU := Lib.hid (labsT_succ T t)
      have hr1 := rowT_le T t
      have hn1 := numT_le T t
      have HRZ := Lib.hid (show rs T (t + 1) = ((rowT T t : Nat) : Int) from rfl)
      have HNZ := Lib.hid (show nz T (t + 1) = ((numT T t : Nat) : Int) from rfl)
      have HLL := Lib.hid (show letT (rowT T t) (numT T t) = ⟨#[UInt8.ofNat (97 + rowT T t)]⟩ ++ decT (numT T t) from rfl)
      have HSL := Lib.hid (abc_slice (rowT T t) (by omega))
      have es := letter_size (rowT T t)
      have ds := decT_size (numT T t)
      have HF := Lib.hid (fun (W : World) (kk : Int) (hk : kk = ((numT T t : Nat) : Int)) => hk ▸ HFI.out (numT T t) hn1.1 (by omega) W)
      have u1 : (0 : Int) ≤ (t : Int) := by omega
      have u2 : (t : Int) < (l.length : Int) := by omega
      generalize hfg : l.getD t 0 = f at *
      by_cases h0 : t = 0
      · subst h0
        have e0 : rowT T 0 = 0 := rfl
        have e1 : numT T 0 = 1 := rfl
        go_upto_region 7 with fail
        go_cut [9, 10] from 20 to 28 (fun s1 s2 wx => ∃ ga gb : Nat, s1 = .pointer (some ⟨ga, 0, none⟩) ∧ s2 = .pointer (some ⟨gb, 0, none⟩) ∧ wx.cell? ⟨gb, 1, none⟩ = some (.int .i64 (hi (f : Int) 1)) ∧ Ext wr wx)
        case first =>
          go_region_held3 (fun w' => w'.cell? ⟨w.heap.size, 0, none⟩ = some (.slice A n c) ∧ w'.cell? ⟨w.heap.size, 1, none⟩ = some (.slice B m d) ∧ w'.cell? ⟨bG, oG, none⟩ = some (.int .i64 (f : Int))) (exact (fun (Z : Ext wr _) => ⟨Z.cell q0, Z.cell q1, Z.cell hcG⟩) (by repeat (first | with_reducible exact Ext.refl _ | with_reducible exact Xa | with_reducible apply Ext.drew | with_reducible apply Ext.alloc | with_reducible (refine Ext.setCell ?_ (by first | (simp; done) | (simp; omega)) _)))) ((go_at_call 28; refine (HBX.out _ (Ext.trans XW (by repeat (first | with_reducible exact Ext.refl _ | with_reducible exact Xa | with_reducible apply Ext.drew | with_reducible apply Ext.alloc | with_reducible (refine Ext.setCell ?_ (by first | (simp; done) | (simp; omega)) _)))) f (by omega)).mono ?_; rintro e wa ⟨rfl, xa⟩; have Xa : Ext wr _ := Ext.trans (by repeat (first | with_reducible exact Ext.refl _ | with_reducible exact Xa | with_reducible apply Ext.drew | with_reducible apply Ext.alloc | with_reducible (refine Ext.setCell ?_ (by first | (simp; done) | (simp; omega)) _))) xa; have Za := Xa.size; (try (refine (fun (ha00 : wa.cell? ⟨wr.heap.size, 0, none⟩ = some (.int .i64 0)) => ?_) ?_; rotate_left; (refine xa.cell ?_; (first | (focus (simp [go_sem]; done)) | (focus (simp [go_sem, *]; done)))))); (try (refine (fun (ha0f0 : wa.frozen? ⟨wr.heap.size, 0, none⟩ = false) => ?_) ?_; rotate_left; (refine xa.frozen (u := .int .i64 0) ?_ ?_; (first | (focus (simp [go_sem]; done)) | (focus (simp [go_sem, *]; done))); (first | (focus (simp [go_sem]; done)) | (focus (simp [go_sem, *]; done)))))); (try (refine (fun (ha01 : wa.cell? ⟨wr.heap.size, 1, none⟩ = some (.int .i64 0)) => ?_) ?_; rotate_left; (refine xa.cell ?_; (first | (focus (simp [go_sem]; done)) | (focus (simp [go_sem, *]; done)))))); (try (refine (fun (ha0f1 : wa.frozen? ⟨wr.heap.size, 1, none⟩ = false) => ?_) ?_; rotate_left; (refine xa.frozen (u := .int .i64 0) ?_ ?_; (first | (focus (simp [go_sem]; done)) | (focus (simp [go_sem, *]; done))); (first | (focus (simp [go_sem]; done)) | (focus (simp [go_sem, *]; done)))))); (try (have ha0l : wr.heap.size < wa.heap.size := World.block_lt_of_cell? _ _ ha00; have ha0l1 : wr.heap.size < wa.heap.size + 1 := Nat.lt_succ_of_lt ha0l; have ha0l2 : wr.heap.size < wa.heap.size + 1 + 1 := Nat.lt_succ_of_lt ha0l1)); (try (refine (fun (ha10 : wa.cell? ⟨wr.heap.size + 1, 0, none⟩ = some (.int .i64 0)) => ?_) ?_; rotate_left; (refine xa.cell ?_; (first | (focus (simp [go_sem]; done)) | (focus (simp [go_sem, *]; done)))))); (try (refine (fun (ha1f0 : wa.frozen? ⟨wr.heap.size + 1, 0, none⟩ = false) => ?_) ?_; rotate_left; (refine xa.frozen (u := .int .i64 0) ?_ ?_; (first | (focus (simp [go_sem]; done)) | (focus (simp [go_sem, *]; done))); (first | (focus (simp [go_sem]; done)) | (focus (simp [go_sem, *]; done)))))); (try (refine (fun (ha11 : wa.cell? ⟨wr.heap.size + 1, 1, none⟩ = some (.int .i64 0)) => ?_) ?_; rotate_left; (refine xa.cell ?_; (first | (focus (simp [go_sem]; done)) | (focus (simp [go_sem, *]; done)))))); (try (refine (fun (ha1f1 : wa.frozen? ⟨wr.heap.size + 1, 1, none⟩ = false) => ?_) ?_; rotate_left; (refine xa.frozen (u := .int .i64 0) ?_ ?_; (first | (focus (simp [go_sem]; done)) | (focus (simp [go_sem, *]; done))); (first | (focus (simp [go_sem]; done)) | (focus (simp [go_sem, *]; done)))))); (try (have ha1l : wr.heap.size + 1 < wa.heap.size := World.block_lt_of_cell? _ _ ha10; have ha1l1 : wr.heap.size + 1 < wa.heap.size + 1 := Nat.lt_succ_of_lt ha1l; have ha1l2 : wr.heap.size + 1 < wa.heap.size + 1 + 1 := Nat.lt_succ_of_lt ha1l1))))
          all_goals
            go_wp2_with fail
            go_meet
            refine ⟨_, _, rfl, rfl, ?_, ?_⟩
            all_goals first | (focus ((repeat (first | with_reducible exact Ext.refl _ | with_reducible exact Xa | with_reducible apply Ext.drew | with_reducible apply Ext.alloc | with_reducible (refine Ext.setCell ?_ (by first | (simp; done) | (simp; omega)) _))); done)) | (focus (simp [go_sem]; done)) | (focus (simp [go_sem, *]; done))
        case rest =>
        obtain ⟨g9, g10, rfl, rfl, b9, XR7⟩ := hcut
        replace hm := hm.ext XR7
        replace X := X.trans XR7
        have hbc := X.size
        rw [World.size_alloc] at hbc
        clear XR7 q0 q1 hcG
        simp only [rs, nz]
        rw [e0] at HRZ HLL HSL es HSU
        have hsl := HSL.out 0 1 rfl rfl
        have f3 : IntKind.i64.wrap 1 = 1 := by decide
        generalize (⟨#[UInt8.ofNat (97 + 0)]⟩ : ByteArray) = lc at *
        rw [e1] at HNZ HLL ds HF HSU
        generalize decT 1 = dc at *
        have dn : ¬ 9223372036854775807 < 1 + dc.size := by omega
        go_upto_region 16 with fail
        go_region_held3 (fun w' => True) (trivial) (first
          | (go_at_call 29; refine (HF.out _ _ (by omega)).mono ?_; rintro e wa ⟨rfl, xa⟩; have Xa : Ext wc _ := Ext.trans (by repeat (first | with_reducible exact Ext.refl _ | with_reducible exact Xa | with_reducible apply Ext.drew | with_reducible apply Ext.alloc | with_reducible (refine Ext.setCell ?_ (by first | (simp; done) | (simp; omega)) _))) xa; have hma := hm.ext Xa)
          | (refine step_append_text rfl _ _ rfl (w.heap.size + 1) _ _ _ rfl (hma.alloc _) (lc ++ dc) _ rfl (cell_new1 (by simp)) (by omega) (by rw [World.size_alloc]; have := Xa.size; omega) ?_; intro v7 w7 hm7 hg7; have X7 := (hma.alloc (.cells #[.string (lc ++ dc)] 9)).fresh ((X.trans Xa).alloc (.cells #[.string (lc ++ dc)] 9)) (by rw [World.size_alloc]; exact Nat.le_refl _) hg7 rfl))
        all_goals
          go_wp2_with fail
          rw [← HLL.out, ← HSU.out] at hm7
          go_roundw
          case rel => exact ⟨_, hlt, by rw [HRZ.out]; rfl, by rw [HNZ.out]; rfl, by first | rfl | go_num, X7, by rw [labsT_len] at hm7 ⊢; exact hm7⟩
          case measure => simp [intOf]; omega
      · obtain ⟨p, rfl⟩ : ∃ p, t = p + 1 := ⟨t - 1, by omega⟩
        have hltp : p < l.length := by omega
        obtain ⟨_, _, hA2, _, hcP⟩ := HROW.out.at1 hltp
        cases hA2
        rw [nums_ix] at hcP
        replace hcP := XW.cell hcP
        have hf2 := HLT.out p hltp
        have hTp := HT.out p
        have hsl := HSL.out _ _ rfl rfl
        have hst := rs_step T p
        generalize hfg2 : l.getD p 0 = f2 at *
        generalize letT (rowT T (p + 1)) (numT T (p + 1)) = z at *
        generalize (⟨#[UInt8.ofNat (97 + rowT T (p + 1))]⟩ : ByteArray) = lc at *
        generalize decT (numT T (p + 1)) = dc at *
        generalize rowT T (p + 1) = r' at *
        generalize numT T (p + 1) = k' at *
        generalize rs T (p + 1) = r0 at *
        generalize nz T (p + 1) = k0 at *
        have dn : ¬ 9223372036854775807 < 1 + dc.size := by omega
        have f3 : IntKind.i64.wrap ((r' : Int) + 1) = (r' : Int) + 1 := by rw [IntKind.wrap_i64]; omega
        have f4 : IntKind.i64.wrap ((p : Int) + 1 - 1) = (p : Int) := by rw [IntKind.wrap_i64]; omega
        have f7 : IntKind.i64.wrap (p : Int) = (p : Int) := by rw [IntKind.wrap_i64]; omega
        have f8 : (0 : Int) ≤ (p : Int) + 1 := by omega
        have f9 : (p : Int) + 1 < (l.length : Int) := by omega
        have f5 : (0 : Int) ≤ (p : Int) := by omega
        have f6 : (p : Int) < (l.length : Int) := by omega
        rw [hTt, hTp] at hst
        clear hTt hTp
        rcases hst with ⟨h1, h2, h3⟩ | ⟨h1, h2, h3⟩
        · have d1 : (hi (f : Int) 1 != hi (f2 : Int) 1) = false := by simp [h1]
          obtain rfl : r0 = (r' : Int) := by omega
          obtain rfl : k0 = (k' : Int) - 1 := by omega
          clear h2 h3
          go_upto_region 7 with fail
          go_cut [9, 10] from 20 to 28 (fun s1 s2 wx => ∃ ga gb : Nat, s1 = .pointer (some ⟨ga, 0, none⟩) ∧ s2 = .pointer (some ⟨gb, 0, none⟩) ∧ wx.cell? ⟨gb, 1, none⟩ = some (.int .i64 (hi (f : Int) 1)) ∧ Ext wr wx)
          case first =>
            go_region_held3 (fun w' => w'.cell? ⟨w.heap.size, 0, none⟩ = some (.slice A n c) ∧ w'.cell? ⟨w.heap.size, 1, none⟩ = some (.slice B m d) ∧ w'.cell? ⟨bG, oG + (p + 1), none⟩ = some (.int .i64 (f : Int))) (exact (fun (Z : Ext wr _) => ⟨Z.cell q0, Z.cell q1, Z.cell hcG⟩) (by repeat (first | with_reducible exact Ext.refl _ | with_reducible exact Xa | with_reducible apply Ext.drew | with_reducible apply Ext.alloc | with_reducible (refine Ext.setCell ?_ (by first | (simp; done) | (simp; omega)) _)))) ((go_at_call 28; refine (HBX.out _ (Ext.trans XW (by repeat (first | with_reducible exact Ext.refl _ | with_reducible exact Xa | with_reducible apply Ext.drew | with_reducible apply Ext.alloc | with_reducible (refine Ext.setCell ?_ (by first | (simp; done) | (simp; omega)) _)))) f (by omega)).mono ?_; rintro e wa ⟨rfl, xa⟩; have Xa : Ext wr _ := Ext.trans (by repeat (first | with_reducible exact Ext.refl _ | with_reducible exact Xa | with_reducible apply Ext.drew | with_reducible apply Ext.alloc | with_reducible (refine Ext.setCell ?_ (by first | (simp; done) | (simp; omega)) _))) xa; have Za := Xa.size; (try (refine (fun (ha00 : wa.cell? ⟨wr.heap.size, 0, none⟩ = some (.int .i64 0)) => ?_) ?_; rotate_left; (refine xa.cell ?_; (first | (focus (simp [go_sem]; done)) | (focus (simp [go_sem, *]; done)))))); (try (refine (fun (ha0f0 : wa.frozen? ⟨wr.heap.size, 0, none⟩ = false) => ?_) ?_; rotate_left; (refine xa.frozen (u := .int .i64 0) ?_ ?_; (first | (focus (simp [go_sem]; done)) | (focus (simp [go_sem, *]; done))); (first | (focus (simp [go_sem]; done)) | (focus (simp [go_sem, *]; done)))))); (try (refine (fun (ha01 : wa.cell? ⟨wr.heap.size, 1, none⟩ = some (.int .i64 0)) => ?_) ?_; rotate_left; (refine xa.cell ?_; (first | (focus (simp [go_sem]; done)) | (focus (simp [go_sem, *]; done)))))); (try (refine (fun (ha0f1 : wa.frozen? ⟨wr.heap.size, 1, none⟩ = false) => ?_) ?_; rotate_left; (refine xa.frozen (u := .int .i64 0) ?_ ?_; (first | (focus (simp [go_sem]; done)) | (focus (simp [go_sem, *]; done))); (first | (focus (simp [go_sem]; done)) | (focus (simp [go_sem, *]; done)))))); (try (have ha0l : wr.heap.size < wa.heap.size := World.block_lt_of_cell? _ _ ha00; have ha0l1 : wr.heap.size < wa.heap.size + 1 := Nat.lt_succ_of_lt ha0l; have ha0l2 : wr.heap.size < wa.heap.size + 1 + 1 := Nat.lt_succ_of_lt ha0l1)); (try (refine (fun (ha10 : wa.cell? ⟨wr.heap.size + 1, 0, none⟩ = some (.int .i64 0)) => ?_) ?_; rotate_left; (refine xa.cell ?_; (first | (focus (simp [go_sem]; done)) | (focus (simp [go_sem, *]; done)))))); (try (refine (fun (ha1f0 : wa.frozen? ⟨wr.heap.size + 1, 0, none⟩ = false) => ?_) ?_; rotate_left; (refine xa.frozen (u := .int .i64 0) ?_ ?_; (first | (focus (simp [go_sem]; done)) | (focus (simp [go_sem, *]; done))); (first | (focus (simp [go_sem]; done)) | (focus (simp [go_sem, *]; done)))))); (try (refine (fun (ha11 : wa.cell? ⟨wr.heap.size + 1, 1, none⟩ = some (.int .i64 0)) => ?_) ?_; rotate_left; (refine xa.cell ?_; (first | (focus (simp [go_sem]; done)) | (focus (simp [go_sem, *]; done)))))); (try (refine (fun (ha1f1 : wa.frozen? ⟨wr.heap.size + 1, 1, none⟩ = false) => ?_) ?_; rotate_left; (refine xa.frozen (u := .int .i64 0) ?_ ?_; (first | (focus (simp [go_sem]; done)) | (focus (simp [go_sem, *]; done))); (first | (focus (simp [go_sem]; done)) | (focus (simp [go_sem, *]; done)))))); (try (have ha1l : wr.heap.size + 1 < wa.heap.size := World.block_lt_of_cell? _ _ ha10; have ha1l1 : wr.heap.size + 1 < wa.heap.size + 1 := Nat.lt_succ_of_lt ha1l; have ha1l2 : wr.heap.size + 1 < wa.heap.size + 1 + 1 := Nat.lt_succ_of_lt ha1l1))))
            all_goals
              go_wp2_with fail
              go_meet
              refine ⟨_, _, rfl, rfl, ?_, ?_⟩
              all_goals first | (focus ((repeat (first | with_reducible exact Ext.refl _ | with_reducible exact Xa | with_reducible apply Ext.drew | with_reducible apply Ext.alloc | with_reducible (refine Ext.setCell ?_ (by first | (simp; done) | (simp; omega)) _))); done)) | (focus (simp [go_sem]; done)) | (focus (simp [go_sem, *]; done))
          case rest =>
          obtain ⟨g9, g10, rfl, rfl, b9, XR7⟩ := hcut
          replace hm := hm.ext XR7
          replace X := X.trans XR7
          replace XW := XW.trans XR7
          replace q0 := XR7.cell q0
          replace q1 := XR7.cell q1
          replace hcP := XR7.cell hcP
          clear XR7 hcG
          go_upto_region 9 with fail
          go_cut [11, 12] from 31 to 40 (fun s1 s2 wx => ∃ ga gb : Nat, s1 = .pointer (some ⟨ga, 0, none⟩) ∧ s2 = .pointer (some ⟨gb, 0, none⟩) ∧ wx.cell? ⟨gb, 1, none⟩ = some (.int .i64 (hi (f2 : Int) 1)) ∧ Ext wc wx)
          case first =>
            go_region_held3 (fun w' => w'.cell? ⟨w.heap.size, 0, none⟩ = some (.slice A n c) ∧ w'.cell? ⟨w.heap.size, 1, none⟩ = some (.slice B m d) ∧ w'.cell? ⟨bG, oG + p, none⟩ = some (.int .i64 (f2 : Int))) (exact (fun (Z : Ext wc _) => ⟨Z.cell q0, Z.cell q1, Z.cell hcP⟩) (by repeat (first | with_reducible exact Ext.refl _ | with_reducible exact Xa | with_reducible apply Ext.drew | with_reducible apply Ext.alloc | with_reducible (refine Ext.setCell ?_ (by first | (simp; done) | (simp; omega)) _)))) ((go_at_call 28; refine (HBX.out _ (Ext.trans XW (by repeat (first | with_reducible exact Ext.refl _ | with_reducible exact Xa | with_reducible apply Ext.drew | with_reducible apply Ext.alloc | with_reducible (refine Ext.setCell ?_ (by first | (simp; done) | (simp; omega)) _)))) f2 (by omega)).mono ?_; rintro e wa ⟨rfl, xa⟩; have Xa : Ext wc _ := Ext.trans (by repeat (first | with_reducible exact Ext.refl _ | with_reducible exact Xa | with_reducible apply Ext.drew | with_reducible apply Ext.alloc | with_reducible (refine Ext.setCell ?_ (by first | (simp; done) | (simp; omega)) _))) xa; have Za := Xa.size; (try (refine (fun (ha00 : wa.cell? ⟨wc.heap.size, 0, none⟩ = some (.int .i64 0)) => ?_) ?_; rotate_left; (refine xa.cell ?_; (first | (focus (simp [go_sem]; done)) | (focus (simp [go_sem, *]; done)))))); (try (refine (fun (ha0f0 : wa.frozen? ⟨wc.heap.size, 0, none⟩ = false) => ?_) ?_; rotate_left; (refine xa.frozen (u := .int .i64 0) ?_ ?_; (first | (focus (simp [go_sem]; done)) | (focus (simp [go_sem, *]; done))); (first | (focus (simp [go_sem]; done)) | (focus (simp [go_sem, *]; done)))))); (try (refine (fun (ha01 : wa.cell? ⟨wc.heap.size, 1, none⟩ = some (.int .i64 0)) => ?_) ?_; rotate_left; (refine xa.cell ?_; (first | (focus (simp [go_sem]; done)) | (focus (simp [go_sem, *]; done)))))); (try (refine (fun (ha0f1 : wa.frozen? ⟨wc.heap.size, 1, none⟩ = false) => ?_) ?_; rotate_left; (refine xa.frozen (u := .int .i64 0) ?_ ?_; (first | (focus (simp [go_sem]; done)) | (focus (simp [go_sem, *]; done))); (first | (focus (simp [go_sem]; done)) | (focus (simp [go_sem, *]; done)))))); (try (have ha0l : wc.heap.size < wa.heap.size := World.block_lt_of_cell? _ _ ha00; have ha0l1 : wc.heap.size < wa.heap.size + 1 := Nat.lt_succ_of_lt ha0l; have ha0l2 : wc.heap.size < wa.heap.size + 1 + 1 := Nat.lt_succ_of_lt ha0l1)); (try (refine (fun (ha10 : wa.cell? ⟨wc.heap.size + 1, 0, none⟩ = some (.int .i64 0)) => ?_) ?_; rotate_left; (refine xa.cell ?_; (first | (focus (simp [go_sem]; done)) | (focus (simp [go_sem, *]; done)))))); (try (refine (fun (ha1f0 : wa.frozen? ⟨wc.heap.size + 1, 0, none⟩ = false) => ?_) ?_; rotate_left; (refine xa.frozen (u := .int .i64 0) ?_ ?_; (first | (focus (simp [go_sem]; done)) | (focus (simp [go_sem, *]; done))); (first | (focus (simp [go_sem]; done)) | (focus (simp [go_sem, *]; done)))))); (try (refine (fun (ha11 : wa.cell? ⟨wc.heap.size + 1, 1, none⟩ = some (.int .i64 0)) => ?_) ?_; rotate_left; (refine xa.cell ?_; (first | (focus (simp [go_sem]; done)) | (focus (simp [go_sem, *]; done)))))); (try (refine (fun (ha1f1 : wa.frozen? ⟨wc.heap.size + 1, 1, none⟩ = false) => ?_) ?_; rotate_left; (refine xa.frozen (u := .int .i64 0) ?_ ?_; (first | (focus (simp [go_sem]; done)) | (focus (simp [go_sem, *]; done))); (first | (focus (simp [go_sem]; done)) | (focus (simp [go_sem, *]; done)))))); (try (have ha1l : wc.heap.size + 1 < wa.heap.size := World.block_lt_of_cell? _ _ ha10; have ha1l1 : wc.heap.size + 1 < wa.heap.size + 1 := Nat.lt_succ_of_lt ha1l; have ha1l2 : wc.heap.size + 1 < wa.heap.size + 1 + 1 := Nat.lt_succ_of_lt ha1l1))))
            all_goals
              go_wp2_with fail
              go_meet
              refine ⟨_, _, rfl, rfl, ?_, ?_⟩
              all_goals first | (focus ((repeat (first | with_reducible exact Ext.refl _ | with_reducible exact Xa | with_reducible apply Ext.drew | with_reducible apply Ext.alloc | with_reducible (refine Ext.setCell ?_ (by first | (simp; done) | (simp; omega)) _))); done)) | (focus (simp [go_sem]; done)) | (focus (simp [go_sem, *]; done))
          case rest =>
          obtain ⟨g11, g12, rfl, rfl, b11, XR9⟩ := hcut
          replace hm := hm.ext XR9
          replace b9 := XR9.cell b9
          replace X := X.trans XR9
          have hbc := X.size
          rw [World.size_alloc] at hbc
          clear XR9 q0 q1 hcP
          go_upto_region 16 with fail
          go_region_held3 (fun w' => True) (trivial) (first
            | (go_at_call 29; refine (HF.out _ _ (by omega)).mono ?_; rintro e wa ⟨rfl, xa⟩; have Xa : Ext wc _ := Ext.trans (by repeat (first | with_reducible exact Ext.refl _ | with_reducible exact Xa | with_reducible apply Ext.drew | with_reducible apply Ext.alloc | with_reducible (refine Ext.setCell ?_ (by first | (simp; done) | (simp; omega)) _))) xa; have hma := hm.ext Xa)
            | (refine step_append_text rfl _ _ rfl (w.heap.size + 1) _ _ _ rfl (hma.alloc _) (lc ++ dc) _ rfl (cell_new1 (by simp)) (by omega) (by rw [World.size_alloc]; have := Xa.size; omega) ?_; intro v7 w7 hm7 hg7; have X7 := (hma.alloc (.cells #[.string (lc ++ dc)] 9)).fresh ((X.trans Xa).alloc (.cells #[.string (lc ++ dc)] 9)) (by rw [World.size_alloc]; exact Nat.le_refl _) hg7 rfl))
          all_goals
            go_wp2_with fail
            rw [← HLL.out, ← HSU.out] at hm7
            go_roundw
            case rel => exact ⟨_, hlt, by rw [HRZ.out], by rw [HNZ.out], by first | rfl | go_num, X7, by rw [labsT_len] at hm7 ⊢; exact hm7⟩
            case measure => simp [intOf]; omega
        · have d1 : (hi (f : Int) 1 != hi (f2 : Int) 1) = true := by simp [h1]
          obtain rfl : r0 = (r' : Int) - 1 := by omega
          subst h3
          clear h2
          go_upto_region 7 with fail
          go_cut [9, 10] from 20 to 28 (fun s1 s2 wx => ∃ ga gb : Nat, s1 = .pointer (some ⟨ga, 0, none⟩) ∧ s2 = .pointer (some ⟨gb, 0, none⟩) ∧ wx.cell? ⟨gb, 1, none⟩ = some (.int .i64 (hi (f : Int) 1)) ∧ Ext wr wx)
          case first =>
            go_region_held3 (fun w' => w'.cell? ⟨w.heap.size, 0, none⟩ = some (.slice A n c) ∧ w'.cell? ⟨w.heap.size, 1, none⟩ = some (.slice B m d) ∧ w'.cell? ⟨bG, oG + (p + 1), none⟩ = some (.int .i64 (f : Int))) (exact (fun (Z : Ext wr _) => ⟨Z.cell q0, Z.cell q1, Z.cell hcG⟩) (by repeat (first | with_reducible exact Ext.refl _ | with_reducible exact Xa | with_reducible apply Ext.drew | with_reducible apply Ext.alloc | with_reducible (refine Ext.setCell ?_ (by first | (simp; done) | (simp; omega)) _)))) ((go_at_call 28; refine (HBX.out _ (Ext.trans XW (by repeat (first | with_reducible exact Ext.refl _ | with_reducible exact Xa | with_reducible apply Ext.drew | with_reducible apply Ext.alloc | with_reducible (refine Ext.setCell ?_ (by first | (simp; done) | (simp; omega)) _)))) f (by omega)).mono ?_; rintro e wa ⟨rfl, xa⟩; have Xa : Ext wr _ := Ext.trans (by repeat (first | with_reducible exact Ext.refl _ | with_reducible exact Xa | with_reducible apply Ext.drew | with_reducible apply Ext.alloc | with_reducible (refine Ext.setCell ?_ (by first | (simp; done) | (simp; omega)) _))) xa; have Za := Xa.size; (try (refine (fun (ha00 : wa.cell? ⟨wr.heap.size, 0, none⟩ = some (.int .i64 0)) => ?_) ?_; rotate_left; (refine xa.cell ?_; (first | (focus (simp [go_sem]; done)) | (focus (simp [go_sem, *]; done)))))); (try (refine (fun (ha0f0 : wa.frozen? ⟨wr.heap.size, 0, none⟩ = false) => ?_) ?_; rotate_left; (refine xa.frozen (u := .int .i64 0) ?_ ?_; (first | (focus (simp [go_sem]; done)) | (focus (simp [go_sem, *]; done))); (first | (focus (simp [go_sem]; done)) | (focus (simp [go_sem, *]; done)))))); (try (refine (fun (ha01 : wa.cell? ⟨wr.heap.size, 1, none⟩ = some (.int .i64 0)) => ?_) ?_; rotate_left; (refine xa.cell ?_; (first | (focus (simp [go_sem]; done)) | (focus (simp [go_sem, *]; done)))))); (try (refine (fun (ha0f1 : wa.frozen? ⟨wr.heap.size, 1, none⟩ = false) => ?_) ?_; rotate_left; (refine xa.frozen (u := .int .i64 0) ?_ ?_; (first | (focus (simp [go_sem]; done)) | (focus (simp [go_sem, *]; done))); (first | (focus (simp [go_sem]; done)) | (focus (simp [go_sem, *]; done)))))); (try (have ha0l : wr.heap.size < wa.heap.size := World.block_lt_of_cell? _ _ ha00; have ha0l1 : wr.heap.size < wa.heap.size + 1 := Nat.lt_succ_of_lt ha0l; have ha0l2 : wr.heap.size < wa.heap.size + 1 + 1 := Nat.lt_succ_of_lt ha0l1)); (try (refine (fun (ha10 : wa.cell? ⟨wr.heap.size + 1, 0, none⟩ = some (.int .i64 0)) => ?_) ?_; rotate_left; (refine xa.cell ?_; (first | (focus (simp [go_sem]; done)) | (focus (simp [go_sem, *]; done)))))); (try (refine (fun (ha1f0 : wa.frozen? ⟨wr.heap.size + 1, 0, none⟩ = false) => ?_) ?_; rotate_left; (refine xa.frozen (u := .int .i64 0) ?_ ?_; (first | (focus (simp [go_sem]; done)) | (focus (simp [go_sem, *]; done))); (first | (focus (simp [go_sem]; done)) | (focus (simp [go_sem, *]; done)))))); (try (refine (fun (ha11 : wa.cell? ⟨wr.heap.size + 1, 1, none⟩ = some (.int .i64 0)) => ?_) ?_; rotate_left; (refine xa.cell ?_; (first | (focus (simp [go_sem]; done)) | (focus (simp [go_sem, *]; done)))))); (try (refine (fun (ha1f1 : wa.frozen? ⟨wr.heap.size + 1, 1, none⟩ = false) => ?_) ?_; rotate_left; (refine xa.frozen (u := .int .i64 0) ?_ ?_; (first | (focus (simp [go_sem]; done)) | (focus (simp [go_sem, *]; done))); (first | (focus (simp [go_sem]; done)) | (focus (simp [go_sem, *]; done)))))); (try (have ha1l : wr.heap.size + 1 < wa.heap.size := World.block_lt_of_cell? _ _ ha10; have ha1l1 : wr.heap.size + 1 < wa.heap.size + 1 := Nat.lt_succ_of_lt ha1l; have ha1l2 : wr.heap.size + 1 < wa.heap.size + 1 + 1 := Nat.lt_succ_of_lt ha1l1))))
            all_goals
              go_wp2_with fail
              go_meet
              refine ⟨_, _, rfl, rfl, ?_, ?_⟩
              all_goals first | (focus ((repeat (first | with_reducible exact Ext.refl _ | with_reducible exact Xa | with_reducible apply Ext.drew | with_reducible apply Ext.alloc | with_reducible (refine Ext.setCell ?_ (by first | (simp; done) | (simp; omega)) _))); done)) | (focus (simp [go_sem]; done)) | (focus (simp [go_sem, *]; done))
          case rest =>
          obtain ⟨g9, g10, rfl, rfl, b9, XR7⟩ := hcut
          replace hm := hm.ext XR7
          replace X := X.trans XR7
          replace XW := XW.trans XR7
          replace q0 := XR7.cell q0
          replace q1 := XR7.cell q1
          replace hcP := XR7.cell hcP
          clear XR7 hcG
          go_upto_region 9 with fail
          go_cut [11, 12] from 31 to 40 (fun s1 s2 wx => ∃ ga gb : Nat, s1 = .pointer (some ⟨ga, 0, none⟩) ∧ s2 = .pointer (some ⟨gb, 0, none⟩) ∧ wx.cell? ⟨gb, 1, none⟩ = some (.int .i64 (hi (f2 : Int) 1)) ∧ Ext wc wx)
          case first =>
            go_region_held3 (fun w' => w'.cell? ⟨w.heap.size, 0, none⟩ = some (.slice A n c) ∧ w'.cell? ⟨w.heap.size, 1, none⟩ = some (.slice B m d) ∧ w'.cell? ⟨bG, oG + p, none⟩ = some (.int .i64 (f2 : Int))) (exact (fun (Z : Ext wc _) => ⟨Z.cell q0, Z.cell q1, Z.cell hcP⟩) (by repeat (first | with_reducible exact Ext.refl _ | with_reducible exact Xa | with_reducible apply Ext.drew | with_reducible apply Ext.alloc | with_reducible (refine Ext.setCell ?_ (by first | (simp; done) | (simp; omega)) _)))) ((go_at_call 28; refine (HBX.out _ (Ext.trans XW (by repeat (first | with_reducible exact Ext.refl _ | with_reducible exact Xa | with_reducible apply Ext.drew | with_reducible apply Ext.alloc | with_reducible (refine Ext.setCell ?_ (by first | (simp; done) | (simp; omega)) _)))) f2 (by omega)).mono ?_; rintro e wa ⟨rfl, xa⟩; have Xa : Ext wc _ := Ext.trans (by repeat (first | with_reducible exact Ext.refl _ | with_reducible exact Xa | with_reducible apply Ext.drew | with_reducible apply Ext.alloc | with_reducible (refine Ext.setCell ?_ (by first | (simp; done) | (simp; omega)) _))) xa; have Za := Xa.size; (try (refine (fun (ha00 : wa.cell? ⟨wc.heap.size, 0, none⟩ = some (.int .i64 0)) => ?_) ?_; rotate_left; (refine xa.cell ?_; (first | (focus (simp [go_sem]; done)) | (focus (simp [go_sem, *]; done)))))); (try (refine (fun (ha0f0 : wa.frozen? ⟨wc.heap.size, 0, none⟩ = false) => ?_) ?_; rotate_left; (refine xa.frozen (u := .int .i64 0) ?_ ?_; (first | (focus (simp [go_sem]; done)) | (focus (simp [go_sem, *]; done))); (first | (focus (simp [go_sem]; done)) | (focus (simp [go_sem, *]; done)))))); (try (refine (fun (ha01 : wa.cell? ⟨wc.heap.size, 1, none⟩ = some (.int .i64 0)) => ?_) ?_; rotate_left; (refine xa.cell ?_; (first | (focus (simp [go_sem]; done)) | (focus (simp [go_sem, *]; done)))))); (try (refine (fun (ha0f1 : wa.frozen? ⟨wc.heap.size, 1, none⟩ = false) => ?_) ?_; rotate_left; (refine xa.frozen (u := .int .i64 0) ?_ ?_; (first | (focus (simp [go_sem]; done)) | (focus (simp [go_sem, *]; done))); (first | (focus (simp [go_sem]; done)) | (focus (simp [go_sem, *]; done)))))); (try (have ha0l : wc.heap.size < wa.heap.size := World.block_lt_of_cell? _ _ ha00; have ha0l1 : wc.heap.size < wa.heap.size + 1 := Nat.lt_succ_of_lt ha0l; have ha0l2 : wc.heap.size < wa.heap.size + 1 + 1 := Nat.lt_succ_of_lt ha0l1)); (try (refine (fun (ha10 : wa.cell? ⟨wc.heap.size + 1, 0, none⟩ = some (.int .i64 0)) => ?_) ?_; rotate_left; (refine xa.cell ?_; (first | (focus (simp [go_sem]; done)) | (focus (simp [go_sem, *]; done)))))); (try (refine (fun (ha1f0 : wa.frozen? ⟨wc.heap.size + 1, 0, none⟩ = false) => ?_) ?_; rotate_left; (refine xa.frozen (u := .int .i64 0) ?_ ?_; (first | (focus (simp [go_sem]; done)) | (focus (simp [go_sem, *]; done))); (first | (focus (simp [go_sem]; done)) | (focus (simp [go_sem, *]; done)))))); (try (refine (fun (ha11 : wa.cell? ⟨wc.heap.size + 1, 1, none⟩ = some (.int .i64 0)) => ?_) ?_; rotate_left; (refine xa.cell ?_; (first | (focus (simp [go_sem]; done)) | (focus (simp [go_sem, *]; done)))))); (try (refine (fun (ha1f1 : wa.frozen? ⟨wc.heap.size + 1, 1, none⟩ = false) => ?_) ?_; rotate_left; (refine xa.frozen (u := .int .i64 0) ?_ ?_; (first | (focus (simp [go_sem]; done)) | (focus (simp [go_sem, *]; done))); (first | (focus (simp [go_sem]; done)) | (focus (simp [go_sem, *]; done)))))); (try (have ha1l : wc.heap.size + 1 < wa.heap.size := World.block_lt_of_cell? _ _ ha10; have ha1l1 : wc.heap.size + 1 < wa.heap.size + 1 := Nat.lt_succ_of_lt ha1l; have ha1l2 : wc.heap.size + 1 < wa.heap.size + 1 + 1 := Nat.lt_succ_of_lt ha1l1))))
            all_goals
              go_wp2_with fail
              go_meet
              refine ⟨_, _, rfl, rfl, ?_, ?_⟩
              all_goals first | (focus ((repeat (first | with_reducible exact Ext.refl _ | with_reducible exact Xa | with_reducible apply Ext.drew | with_reducible apply Ext.alloc | with_reducible (refine Ext.setCell ?_ (by first | (simp; done) | (simp; omega)) _))); done)) | (focus (simp [go_sem]; done)) | (focus (simp [go_sem, *]; done))
          case rest =>
          obtain ⟨g11, g12, rfl, rfl, b11, XR9⟩ := hcut
          replace hm := hm.ext XR9
          replace b9 := XR9.cell b9
          replace X := X.trans XR9
          have hbc := X.size
          rw [World.size_alloc] at hbc
          clear XR9 q0 q1 hcP
          go_upto_region 16 with fail
          go_region_held3 (fun w' => True) (trivial) (first
            | (go_at_call 29; refine (HF.out _ _ (by omega)).mono ?_; rintro e wa ⟨rfl, xa⟩; have Xa : Ext wc _ := Ext.trans (by repeat (first | with_reducible exact Ext.refl _ | with_reducible exact Xa | with_reducible apply Ext.drew | with_reducible apply Ext.alloc | with_reducible (refine Ext.setCell ?_ (by first | (simp; done) | (simp; omega)) _))) xa; have hma := hm.ext Xa)
            | (refine step_append_text rfl _ _ rfl (w.heap.size + 1) _ _ _ rfl (hma.alloc _) (lc ++ dc) _ rfl (cell_new1 (by simp)) (by omega) (by rw [World.size_alloc]; have := Xa.size; omega) ?_; intro v7 w7 hm7 hg7; have X7 := (hma.alloc (.cells #[.string (lc ++ dc)] 9)).fresh ((X.trans Xa).alloc (.cells #[.string (lc ++ dc)] 9)) (by rw [World.size_alloc]; exact Nat.le_refl _) hg7 rfl))
          all_goals
            go_wp2_with fail
            rw [← HLL.out, ← HSU.out] at hm7
            go_roundw
            case rel => exact ⟨_, hlt, by rw [HRZ.out], by rw [HNZ.out]; rfl, by first | rfl | go_num, X7, by rw [labsT_len] at hm7 ⊢; exact hm7⟩
            case measure => simp [intOf]; omega
    · obtain rfl : t = l.length := by omega
      obtain ⟨A', c', rfl, hc1, hc2⟩ := hm.form
      rw [hll] at hm
      go_wp2
      go_ret
      rw [HLV.out]
      exact ⟨A', c', by show Ending.returned (.slice A' (labsT T l.length).length c') = _; rw [hll], by omega, hc2, hm.more (by omega), XW⟩

end Go.Proofs.YtbbbgegmkmmjkaaGreatDoor

/- LblS -/
namespace Go.Proofs.YtbbbgegmkmmjkaaGreatDoor
open Go.RowKit Ring
set_option linter.unusedVariables false

attribute [local go_sem ↓] Go.wp_at_zero Go.wp_at_succ
attribute [local go_sem, local simp] Go.World.cell?_alloc_some Go.World.frozen?_alloc_past

set_option maxRecDepth 100000 in
set_option maxHeartbeats 4000000 in
theorem spec_LabelOf (A : Option Addr) (n c : Nat) (P : Nat → Nat → Int) (B : Option Addr) (m d : Nat) (L : Nat → Nat → Int) (hnc : n ≤ c) (hcm : c ≤ 9223372036854775807) (hmd : m ≤ d) (hdm : d ≤ 9223372036854775807) (f : Int) (hf : (-9223372036854775808 ≤ f ∧ f ≤ 9223372036854775807)) (w : World) (hr : Recs w 2 A n P) (hs : Recs w 2 B m L) :
    Calls Tryz.prog 10 #[.agg #[.slice A n c, .slice B m d], .int .i64 f] w fun e w' => e = .returned (.string (labelV n P m L f)) ∧ Ext w w' := by
  have HRO := Lib.hid (fun W (Z : Ext w W) => spec_ReadingOrder A n c P B m d L hnc hcm hmd hdm W (hr.ext Z) (hs.ext Z))
  have HLA := Lib.hid (fun A2 c2 h2a h2b W (Z : Ext w W) hrow => spec_l30Labels A n c P B m d L hnc hcm hmd hdm A2 c2 h2a h2b W (hr.ext Z) (hs.ext Z) hrow)
  have HNO := Lib.hid (fun W (Z : Ext w W) => spec_NumberOf A n c P B m d L hnc hcm hmd hdm f hf W (hr.ext Z) (hs.ext Z))
  have hl20 := readV_len (n := n) (m := m) (P := P) (L := L)
  have hnr := numV_rng (n := n) (m := m) (P := P) (L := L) f
  have hnl := numV_le (n := n) (m := m) (P := P) (L := L) f
  have HN := Lib.hid (fun h => labelV_no (n := n) (m := m) (P := P) (L := L) (f := f) h)
  have HY := Lib.hid (fun k h => labelV_yes (n := n) (m := m) (P := P) (L := L) (f := f) (k := k) h)
  clear hr hs
  have q0 : (w.alloc (.cells #[.slice A n c, .slice B m d] 31)).cell? ⟨w.heap.size, 0, none⟩ = some (.slice A n c) := by simp [go_sem]
  have q1 : (w.alloc (.cells #[.slice A n c, .slice B m d] 31)).cell? ⟨w.heap.size, 1, none⟩ = some (.slice B m d) := by simp [go_sem]
  generalize numV n P m L f = nv at *
  generalize labelV n P m L f = lb at *
  generalize readV n P m L = l at *
  generalize labsV n P m L = ls at *
  by_cases h0 : nv = 0
  · have HR := Lib.hid (HN.out h0)
    subst h0
    clear HN HY
    go_enter Tryz.func10, Tryz.ntmps10
    go_wp2_with fail
    refine (HNO.out _ (by repeat (first | exact Ext.refl _ | apply Ext.alloc))).mono ?_
    rintro e w2 ⟨rfl, x2⟩
    have X2 : Ext w w2 := Ext.trans (by repeat (first | exact Ext.refl _ | apply Ext.alloc)) x2
    go_wp2
    go_ret
    exact ⟨ret_s HR.out.symm, X2⟩
  · obtain ⟨k, rfl⟩ : ∃ k : Nat, nv = (k : Int) + 1 := ⟨(nv - 1).toNat, by omega⟩
    have hk : k < l.length := by omega
    have HR := Lib.hid (HY.out k rfl)
    have d1 : ((k : Int) + 1 == 0) = false := beq_eq_false_iff_ne.2 (by omega)
    clear HN HY h0
    have u1 : (0 : Int) ≤ (k : Int) := by omega
    have u2 : (k : Int) < (l.length : Int) := by omega
    have f1 : IntKind.i64.wrap ((k : Int) + 1 - 1) = (k : Int) := by rw [IntKind.wrap_i64]; omega
    have f7 : IntKind.i64.wrap (k : Int) = (k : Int) := by rw [IntKind.wrap_i64]; omega
    generalize hyy : ls.getD k ⟨#[]⟩ = y at *
    have HYY := Lib.hid hyy
    clear hyy
    go_enter Tryz.func10, Tryz.ntmps10
    go_wp2_with fail
    refine (HNO.out _ (by repeat (first | exact Ext.refl _ | apply Ext.alloc))).mono ?_
    rintro e w2 ⟨rfl, x2⟩
    have X2 : Ext w w2 := Ext.trans (by repeat (first | exact Ext.refl _ | apply Ext.alloc)) x2
    replace q0 := x2.cell q0
    replace q1 := x2.cell q1
    clear x2
    go_wp2_with fail
    go_region_with (first
      | (go_at_call 14; refine (HRO.out _ (X2.trans (by repeat (first | with_reducible exact Ext.refl _ | with_reducible exact Xa | with_reducible apply Ext.drew | with_reducible apply Ext.alloc | with_reducible (refine Ext.setCell ?_ (by first | (simp; done) | (simp; omega)) _))))).mono ?_; rintro e wa ⟨A5, c5, rfl, i5, j5, hm5, xa⟩; have q0a := xa.cell q0; have q1a := xa.cell q1; have Xa : Ext w2 _ := Ext.trans (by repeat (first | with_reducible exact Ext.refl _ | with_reducible exact Xa | with_reducible apply Ext.drew | with_reducible apply Ext.alloc | with_reducible (refine Ext.setCell ?_ (by first | (simp; done) | (simp; omega)) _))) xa)
      | (go_at_call 15; refine (HLA.out _ _ i5 j5 _ (X2.trans Xa) hm5.recs).mono ?_; rintro e wb ⟨A6, c6, rfl, i6, j6, hm6, xb⟩; have Xb := Xa.trans xb; obtain ⟨G, hG⟩ := hm6.some_ (by omega); subst hG; have hcG := hm6.at_ hk; rw [HYY.out] at hcG; clear hm6))
    all_goals
      go_wp2
      go_ret
      exact ⟨ret_s HR.out.symm, X2.trans Xb⟩
set_option maxRecDepth 100000 in
set_option maxHeartbeats 4000000 in
theorem spec_FaceWithLabel (A : Option Addr) (n c : Nat) (P : Nat → Nat → Int) (B : Option Addr) (m d : Nat) (L : Nat → Nat → Int) (hnc : n ≤ c) (hcm : c ≤ 9223372036854775807) (hmd : m ≤ d) (hdm : d ≤ 9223372036854775807) (s : ByteArray) (w : World) (hr : Recs w 2 A n P) (hs : Recs w 2 B m L) :
    Calls Tryz.prog 6 #[.agg #[.slice A n c, .slice B m d], .string s] w fun e w' => e = .returned (.int .i64 (faceL n P m L s)) ∧ Ext w w' := by
  have HRO := Lib.hid (fun W (Z : Ext w W) => spec_ReadingOrder A n c P B m d L hnc hcm hmd hdm W (hr.ext Z) (hs.ext Z))
  have HLA := Lib.hid (fun A2 c2 h2a h2b W (Z : Ext w W) hrow => spec_l30Labels A n c P B m d L hnc hcm hmd hdm A2 c2 h2a h2b W (hr.ext Z) (hs.ext Z) hrow)
  have hl20 := readV_len (n := n) (m := m) (P := P) (L := L)
  have HV := Lib.hid (show faceL n P m L s = (if inB (fdx (fun i => decide (s = (labsV n P m L).getD i ⟨#[]⟩)) (readV n P m L).length + 1) 1 ((readV n P m L).length : Nat) = true then ix (nums (readV n P m L)) (fdx (fun i => decide (s = (labsV n P m L).getD i ⟨#[]⟩)) (readV n P m L).length + 1 - 1).toNat else -1) from rfl)
  have HFU := Lib.hid (fun k h => labs_full (n := n) (m := m) (P := P) (L := L) (k := k) h)
  clear hr hs
  have q0 : (w.alloc (.cells #[.slice A n c, .slice B m d] 31)).cell? ⟨w.heap.size, 0, none⟩ = some (.slice A n c) := by simp [go_sem]
  have q1 : (w.alloc (.cells #[.slice A n c, .slice B m d] 31)).cell? ⟨w.heap.size, 1, none⟩ = some (.slice B m d) := by simp [go_sem]
  generalize faceL n P m L s = fv at *
  generalize readV n P m L = l at *
  generalize labsV n P m L = ls at *
  go_enter Tryz.func6, Tryz.ntmps6
  go_wp2_with fail
  refine (HRO.out _ (by repeat (first | exact Ext.refl _ | apply Ext.alloc))).mono ?_
  rintro e w1 ⟨A5, c5, rfl, i5, j5, hm5, x1⟩
  have X1 : Ext w w1 := Ext.trans (by repeat (first | exact Ext.refl _ | apply Ext.alloc)) x1
  replace q0 := x1.cell q0
  replace q1 := x1.cell q1
  clear x1
  go_wp2_with fail
  refine (HLA.out _ _ i5 j5 _ X1 hm5.recs).mono ?_
  rintro e w2 ⟨A6, c6, rfl, i6, j6, hm6, x2⟩
  have X2 := X1.trans x2
  replace hm5 := hm5.ext x2
  have HM := Lib.hid hm5
  have HT := Lib.hid hm6
  clear x2 q0 q1 hm5 hm6
  go_wp2
  go_loopw [7] (fun i wr => ∃ t : Nat, t ≤ l.length ∧ i = .int .i64 t ∧ Ext w2 wr ∧ Hid (∀ q, q < t → decide (s = ls.getD q ⟨#[]⟩) = false)) (fun i _ => l.length - (intOf i).toNat)
  case atStart => exact ⟨0, Nat.zero_le _, rfl, Ext.refl _, Lib.hid (fun q hq => absurd hq (by omega))⟩
  case round =>
    obtain ⟨t, ht, rfl, X, HALL⟩ := hrel
    have XW := X2.trans X
    by_cases hlt : t < l.length
    · obtain ⟨G, hG⟩ := HM.out.some_ (by omega)
      obtain ⟨G2, hG2⟩ := HT.out.some_ (by omega)
      subst hG hG2
      obtain ⟨hcG, _, _, _⟩ := HM.out.at_ hlt
      have hcT := HT.out.at_ hlt
      replace hcG := X.cell hcG
      replace hcT := X.cell hcT
      have hfu := HFU.out t hlt
      have u1 : (0 : Int) ≤ (t : Int) := by omega
      have u2 : (t : Int) < (l.length : Int) := by omega
      generalize hy : ls.getD t ⟨#[]⟩ = y at *
      generalize hix : ix (nums l) t = x at *
      by_cases he : s = y
      · have hfd := fdx_at (g := fun i => decide (s = ls.getD i ⟨#[]⟩)) hlt (by rw [hy]; exact decide_eq_true he) HALL.out
        have HR := Lib.hid (show fv = x by rw [HV.out, hfd, inB_yes (by omega), if_pos rfl, show ((t : Int) + 1 - 1).toNat = t by omega, hix])
        subst he
        have d1 : (s.toList == s.toList) = true := text_eq rfl
        have d2 : (s.toList == (⟨#[]⟩ : ByteArray).toList) = false := text_ne hfu
        have he0 : (⟨#[]⟩ : ByteArray).toList = [] := by rw [ByteArray.toList_eq]
        have d3 : (s.toList == []) = false := by rw [he0] at d2; exact d2
        clear he0
        clear hy hfd hix hfu
        go_wp2
        go_ret
        exact ⟨ret_i HR.out.symm, XW⟩
      · have HN := Lib.hid (show decide (s = ls.getD t ⟨#[]⟩) = false by rw [hy]; exact decide_eq_false he)
        have d1 : (y.toList == s.toList) = false := text_ne (fun q => he q.symm)
        clear hy he hix hfu
        go_wp2
        go_roundw
        case rel =>
          refine ⟨t + 1, by omega, by go_num, X, Lib.hid (fun q hq => ?_)⟩
          by_cases e : q = t
          · subst e; exact HN.out
          · exact HALL.out q (by omega)
        case measure => simp [intOf]; omega
    · obtain rfl : t = l.length := by omega
      have hfd := fdx_none (g := fun i => decide (s = ls.getD i ⟨#[]⟩)) HALL.out
      have HR := Lib.hid (show fv = -1 by rw [HV.out, hfd, inB_no (by omega), if_neg (by simp)])
      clear hfd
      go_wp2
      go_ret
      exact ⟨ret_i HR.out.symm, XW⟩

end Go.Proofs.YtbbbgegmkmmjkaaGreatDoor
