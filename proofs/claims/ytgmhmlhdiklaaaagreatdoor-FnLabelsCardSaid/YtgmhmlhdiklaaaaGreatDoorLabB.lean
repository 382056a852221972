/-
  Texts of one kind, one behind the other: LabI LblI. No conditions.
-/
import Derived.Laws.Runes
import Derived.Test.YtgmhmlhdiklaaaaGreatDoorLabA
import Derived.Test.YtgmhmlhdiklaaaaGreatDoorOrdM
import Derived.Deep.DrawnRows
import Derived.RowKit3
import Derived.Test.YtgmhmlhdiklaaaaGreatDoorSmallV
/- LabI -/
namespace Go.Proofs.YtgmhmlhdiklaaaaGreatDoor
open Go.RowKit Ring
set_option linter.unusedVariables false

attribute [local go_sem ↓] Go.wp_at_zero Go.wp_at_succ
attribute [local go_sem, local simp] Go.World.cell?_alloc_some Go.World.frozen?_alloc_past

set_option maxRecDepth 100000 in
set_option maxHeartbeats 4000000 in
theorem impl_labels (A : Option Addr) (n c : Nat) (P : Nat → Nat → Int) (B : Option Addr) (m d : Nat) (L : Nat → Nat → Int) (hnc : n ≤ c) (hcm : c ≤ 9223372036854775807) (hmd : m ≤ d) (hdm : d ≤ 9223372036854775807) (w : World) (hr : Recs w 2 A n P) (hs : Recs w 2 B m L) :
    Calls Tryz.prog 25 #[.agg #[.slice A n c, .slice B m d]] w (PostT w (readV n P m L).length (labsV n P m L)) := by
  have HRO := Lib.hid (fun W (Z : Ext w W) => impl_ReadingOrder A n c P B m d L hnc hcm hmd hdm W (hr.ext Z) (hs.ext Z))
  have HTO : Hid (∀ W, Ext w W → ∀ q : Nat, q < 1000 → Calls Tryz.prog 21 #[.agg #[.slice A n c, .slice B m d], .int .i64 (q : Int)] W fun e w' => e = .returned (.int .i64 (hiN n P m L q 1)) ∧ Ext W w') := Lib.hid (fun W Z q hq => impl_topOf A n c P B m d L hnc hcm hmd hdm q (by omega) W (hr.ext Z) (hs.ext Z))
  have HFI := Lib.hid (fun k h1 h2 W => impl_FormatInt k h1 h2 W)
  have hl20 := readV_len (n := n) (m := m) (P := P) (L := L)
  have HLT := Lib.hid (fun j (hj : j < (readV n P m L).length) => readV_lt (n := n) (m := m) (P := P) (L := L) (f := (readV n P m L).getD j 0) (by rw [List.getD_eq_getElem?_getD, List.getElem?_eq_getElem hj]; exact List.getElem_mem hj))
  have HT := Lib.hid (fun t => show topT n P m L t = hiN n P m L (((readV n P m L).getD t 0 : Nat) : Int) 1 from rfl)
  have HTR := Lib.hid (fun t => show 0 ≤ topT n P m L t ∧ topT n P m L t ≤ 20 from (lohi_rng _ (by omega)).2)
  have HST := Lib.hid (fun t => row_step (T := topT n P m L) (fun t => (lohi_rng (j := 1) _ (by omega)).2.1) t)
  have HLV := Lib.hid (show labsV n P m L = labsT (topT n P m L) (readV n P m L).length from rfl)
  clear hr hs
  have q0 : (w.alloc (.cells #[.slice A n c, .slice B m d] 27)).cell? ⟨w.heap.size, 0, none⟩ = some (.slice A n c) := by simp [go_sem]
  have q1 : (w.alloc (.cells #[.slice A n c, .slice B m d] 27)).cell? ⟨w.heap.size, 1, none⟩ = some (.slice B m d) := by simp [go_sem]
  generalize readV n P m L = l at *
  generalize hiN n P m L = hi at *
  generalize topT n P m L = T at *
  generalize labsV n P m L = lv at *
  go_enter Tryz.func25, Tryz.ntmps25
  go_wp2_with fail
  refine (HRO.out _ (by repeat (first | exact Ext.refl _ | apply Ext.alloc))).mono ?_
  rintro e w1 ⟨A5, c5, rfl, i5, j5, hm5, x1⟩
  have X1 : Ext w w1 := Ext.trans (by repeat (first | exact Ext.refl _ | apply Ext.alloc)) x1
  have bs := X1.size
  replace q0 := x1.cell q0
  replace q1 := x1.cell q1
  have Q0 := Lib.hid q0
  have Q1 := Lib.hid q1
  have HM := Lib.hid hm5
  have hm0 : MineT w1.heap.size w1 (.slice none 0 0) (labsT T 0).length (labsT T 0) := MineT.nil_ _ _
  clear q0 q1 hm5 x1
  go_wp2
  go_loopw [3, 4, 5, 6, 13] (fun r k tp v i wr => ∃ t : Nat, t ≤ l.length ∧ r = .int .i64 (rz T t) ∧ k = .int .i64 (nz T t) ∧ tp = .int .i64 (tz T t) ∧ i = .int .i64 t ∧ Ext w1 wr ∧ MineT w1.heap.size wr v (labsT T t).length (labsT T t)) (fun _ _ _ _ i _ => l.length - (intOf i).toNat)
  case atStart => exact ⟨0, Nat.zero_le _, rfl, rfl, rfl, rfl, Ext.refl _, hm0⟩
  case round =>
    clear hm0
    obtain ⟨t, ht, rfl, rfl, rfl, rfl, X, hm⟩ := hrel
    have q0 := X.cell Q0.out
    have q1 := X.cell Q1.out
    have XW := X1.trans X
    have hll := labsT_len T t
    have hbz := X.size
    by_cases hlt : t < l.length
    · obtain ⟨G, rfl⟩ := HM.out.some_ (by omega)
      obtain ⟨hcG, _, _, _⟩ := HM.out.at_ hlt
      rw [nums_ix] at hcG
      replace hcG := X.cell hcG
      have hf := HLT.out t hlt
      have hTt := HT.out t
      have hTR := HTR.out t
      have HSU := Lib.hid (labsT_succ T t)
      have hr1 := rowT_le T t
      have hn1 := numT_le T t
      have HRZ := Lib.hid (show rz T (t + 1) = ((rowT T t : Nat) : Int) from rfl)
      have HNZ := Lib.hid (show nz T (t + 1) = ((numT T t : Nat) : Int) from rfl)
      have HTZ := Lib.hid (show tz T (t + 1) = T t from rfl)
      have HLL := Lib.hid (show letT (rowT T t) (numT T t) = ⟨#[UInt8.ofNat (97 + rowT T t)]⟩ ++ decT (numT T t) from rfl)
      have ee := enc_letter (rowT T t) (by omega)
      have es := letter_size (rowT T t)
      have ds := decT_size (numT T t)
      have HF := Lib.hid (fun (W : World) (kk : Int) (hk : kk = ((numT T t : Nat) : Int)) => hk ▸ HFI.out (numT T t) hn1.1 (by omega) W)
      have hst := HST.out t
      have HTf := Lib.hid (fun W Z => HTO.out W Z (l.getD t 0) (by omega))
      rw [← hTt] at HTf
      have u1 : (0 : Int) ≤ (t : Int) := by omega
      have u2 : (t : Int) < (l.length : Int) := by omega
      clear hTt
      generalize letT (rowT T t) (numT T t) = z at *
      generalize (⟨#[UInt8.ofNat (97 + rowT T t)]⟩ : ByteArray) = lc at *
      generalize decT (numT T t) = dc at *
      generalize rowT T t = r' at *
      generalize numT T t = k' at *
      generalize l.getD t 0 = f at *
      generalize T t = tt at *
      have hap := (labsT T (t + 1)).length
      rcases hst with ⟨h1, h2, h3⟩ | ⟨h1, h2, h3⟩
      all_goals
        generalize rz T t = r0 at *
        generalize nz T t = k0 at *
        generalize tz T t = t0 at *
      · have d1 : (tt != t0) = false := by simp [h1]
        obtain rfl : r0 = (r' : Int) := by omega
        obtain rfl : k0 = (k' : Int) - 1 := by omega
        clear h2 h3
        go_wp2_with fail
        refine (HTf.out _ XW).mono ?_
        rintro e w5 ⟨rfl, x5⟩
        have hm5 := hm.ext x5
        have X5 := X.trans x5
        clear hm X x5 XW q0 q1 hcG
        go_wp2_with fail
        refine (HF.out _ _ (by omega)).mono ?_
        rintro e w6 ⟨rfl, x6⟩
        have hm6 := hm5.ext x6
        have X6 := X5.trans x6
        have bz6 := X6.size
        clear hm5 X5 x6
        go_wp2_with (at_builtin; (refine append_text _ rfl _ _ rfl w1.heap.size _ _ _ rfl (hm6.alloc _) (lc ++ dc) _ rfl (cell_new1 (by simp)) (by omega) (by rw [World.size_alloc]; omega) ?_; intro v2 w7 hm7 hg7 _; have X7 := (hm6.alloc (.cells #[.string (lc ++ dc)] 9)).fresh (X6.alloc (.cells #[.string (lc ++ dc)] 9)) (Nat.le_refl _) hg7 rfl))
        rw [← HLL.out, ← HSU.out] at hm7
        go_roundw
        case rel => exact ⟨t + 1, by omega, by rw [HRZ.out], by rw [HNZ.out], by rw [HTZ.out, h1], by go_num, X7, by rw [labsT_len] at hm7 ⊢; exact hm7⟩
        case measure => simp [intOf]; omega
      · have d1 : (tt != t0) = true := by simp [h1]
        obtain rfl : r0 = (r' : Int) - 1 := by omega
        subst h3
        clear h2
        go_wp2_with fail
        refine (HTf.out _ XW).mono ?_
        rintro e w5 ⟨rfl, x5⟩
        have hm5 := hm.ext x5
        have X5 := X.trans x5
        clear hm X x5 XW q0 q1 hcG
        go_wp2_with fail
        refine (HF.out _ _ (by omega)).mono ?_
        rintro e w6 ⟨rfl, x6⟩
        have hm6 := hm5.ext x6
        have X6 := X5.trans x6
        have bz6 := X6.size
        clear hm5 X5 x6
        go_wp2_with (at_builtin; (refine append_text _ rfl _ _ rfl w1.heap.size _ _ _ rfl (hm6.alloc _) (lc ++ dc) _ rfl (cell_new1 (by simp)) (by omega) (by rw [World.size_alloc]; omega) ?_; intro v2 w7 hm7 hg7 _; have X7 := (hm6.alloc (.cells #[.string (lc ++ dc)] 9)).fresh (X6.alloc (.cells #[.string (lc ++ dc)] 9)) (Nat.le_refl _) hg7 rfl))
        rw [← HLL.out, ← HSU.out] at hm7
        go_roundw
        case rel => exact ⟨t + 1, by omega, by rw [HRZ.out], by rw [HNZ.out]; rfl, by rw [HTZ.out], by go_num, X7, by rw [labsT_len] at hm7 ⊢; exact hm7⟩
        case measure => simp [intOf]; omega
    · obtain rfl : t = l.length := by omega
      have hrz := rz_rng T l.length
      have hlv := HLV.out
      obtain ⟨A', c', rfl, hc1, hc2⟩ := hm.form
      rw [hll] at hm
      generalize rz T l.length = r0 at *
      clear hlv
      go_wp2
      go_ret
      rw [HLV.out]
      exact ⟨A', c', by show Ending.returned (.slice A' (labsT T l.length).length c') = _; rw [hll], by omega, hc2, hm.more (by omega), XW⟩

end Go.Proofs.YtgmhmlhdiklaaaaGreatDoor

/- LblI -/
namespace Go.Proofs.YtgmhmlhdiklaaaaGreatDoor
open Go.RowKit Ring
set_option linter.unusedVariables false

attribute [local go_sem ↓] Go.wp_at_zero Go.wp_at_succ
attribute [local go_sem, local simp] Go.World.cell?_alloc_some Go.World.frozen?_alloc_past

set_option maxHeartbeats 1000000 in
theorem indexStr_any (A : Option Addr) (n c : Nat) (ss : List ByteArray) (x : ByteArray) (hn : n ≤ 1000) (base : Nat) (w : World) (hm : MineT base w (.slice A n c) n ss) :
    Calls Tryz.prog 28 #[.slice A n c, .string x] w fun e w' => e = .returned (.int .i64 (fdx (fun i => decide (x = ss.getD i ⟨#[]⟩)) n)) ∧ Ext w w' := by
  go_enter Tryz.func28, Tryz.ntmps28
  go_wp2
  go_loopw [5, 8] (fun _ i wr => ∃ j : Nat, j ≤ n ∧ i = .int .i64 j ∧ Ext w wr ∧ ∀ q, q < j → decide (x = ss.getD q ⟨#[]⟩) = false) (fun _ i _ => n - (intOf i).toNat)
  case atStart => exact ⟨0, Nat.zero_le _, rfl, Ext.refl _, fun q hq => absurd hq (by omega)⟩
  case round =>
    obtain ⟨j, hj, rfl, X, hall⟩ := hrel
    have HALL := Lib.hid hall
    clear hall
    by_cases hlt : j < n
    · obtain ⟨G, rfl⟩ := hm.some_ (by omega)
      have h0 := X.cell (hm.at_ hlt)
      have u1 : (0 : Int) ≤ (j : Int) := by omega
      have u2 : (j : Int) < (n : Int) := by omega
      generalize hy : ss.getD j ⟨#[]⟩ = y at *
      by_cases he : x = y
      · have HR := Lib.hid (fdx_at (g := fun i => decide (x = ss.getD i ⟨#[]⟩)) hlt (by rw [hy]; exact decide_eq_true he) HALL.out)
        have d1 := text_eq he
        clear hy he
        go_wp2
        go_ret
        exact ⟨ret_i HR.out.symm, X⟩
      · have HN := Lib.hid (show decide (x = ss.getD j ⟨#[]⟩) = false by rw [hy]; exact decide_eq_false he)
        have d1 := text_ne he
        clear hy he
        go_wp2
        go_roundw
        case rel =>
          refine ⟨j + 1, by omega, by go_num, X, fun q hq => ?_⟩
          by_cases e : q = j
          · subst e; exact HN.out
          · exact HALL.out q (by omega)
        case measure => simp [intOf]; omega
    · obtain rfl : j = n := by omega
      have HR := Lib.hid (fdx_none (g := fun i => decide (x = ss.getD i ⟨#[]⟩)) HALL.out)
      go_wp2
      go_ret
      exact ⟨ret_i HR.out.symm, X⟩

set_option maxRecDepth 100000 in
set_option maxHeartbeats 4000000 in
theorem impl_LabelOf (A : Option Addr) (n c : Nat) (P : Nat → Nat → Int) (B : Option Addr) (m d : Nat) (L : Nat → Nat → Int) (hnc : n ≤ c) (hcm : c ≤ 9223372036854775807) (hmd : m ≤ d) (hdm : d ≤ 9223372036854775807) (f : Int) (hf : (-9223372036854775808 ≤ f ∧ f ≤ 9223372036854775807)) (w : World) (hr : Recs w 2 A n P) (hs : Recs w 2 B m L) :
    Calls Tryz.prog 8 #[.agg #[.slice A n c, .slice B m d], .int .i64 f] w fun e w' => e = .returned (.string (labelV n P m L f)) ∧ Ext w w' := by
  have HLA := Lib.hid (fun W (Z : Ext w W) => impl_labels A n c P B m d L hnc hcm hmd hdm W (hr.ext Z) (hs.ext Z))
  have HNO := Lib.hid (fun W (Z : Ext w W) => impl_NumberOf A n c P B m d L hnc hcm hmd hdm f hf W (hr.ext Z) (hs.ext Z))
  have hl20 := readV_len (n := n) (m := m) (P := P) (L := L)
  have hnr := numV_rng (n := n) (m := m) (P := P) (L := L) f
  have hnl := numV_le (n := n) (m := m) (P := P) (L := L) f
  have HN := Lib.hid (fun h => labelV_no (n := n) (m := m) (P := P) (L := L) (f := f) h)
  have HY := Lib.hid (fun k h => labelV_yes (n := n) (m := m) (P := P) (L := L) (f := f) (k := k) h)
  have HI := Lib.hid (fun W => within_any (numV n P m L f) 1 (((readV n P m L).length : Nat) : Int) W)
  have hll := labsV_len (n := n) (m := m) (P := P) (L := L)
  clear hr hs
  have q0 : (w.alloc (.cells #[.slice A n c, .slice B m d] 27)).cell? ⟨w.heap.size, 0, none⟩ = some (.slice A n c) := by simp [go_sem]
  have q1 : (w.alloc (.cells #[.slice A n c, .slice B m d] 27)).cell? ⟨w.heap.size, 1, none⟩ = some (.slice B m d) := by simp [go_sem]
  generalize numV n P m L f = nv at *
  generalize labelV n P m L f = lb at *
  generalize readV n P m L = l at *
  generalize labsV n P m L = ls at *
  by_cases h0 : nv = 0
  · have HR := Lib.hid (HN.out h0)
    have hin : inB nv 1 ((l.length : Nat) : Int) = false := inB_no (by omega)
    rw [hin] at HI
    subst h0
    clear hin HN HY
    go_enter Tryz.func8, Tryz.ntmps8
    go_wp2_with fail
    refine (HLA.out _ (by repeat (first | exact Ext.refl _ | apply Ext.alloc))).mono ?_
    rintro e w1 ⟨A5, c5, rfl, i5, j5, hm5, x1⟩
    have X1 : Ext w w1 := Ext.trans (by repeat (first | exact Ext.refl _ | apply Ext.alloc)) x1
    replace q0 := x1.cell q0
    replace q1 := x1.cell q1
    clear hm5
    go_wp2_with fail
    refine (HNO.out _ X1).mono ?_
    rintro e w2 ⟨rfl, x2⟩
    have X2 := X1.trans x2
    go_wp2_with fail
    refine (HI.out _).mono ?_
    rintro e w3 ⟨rfl, x3⟩
    have X3 := X2.trans x3
    go_wp2
    go_ret
    exact ⟨ret_s HR.out.symm, X3⟩
  · obtain ⟨k, rfl⟩ : ∃ k : Nat, nv = (k : Int) + 1 := ⟨(nv - 1).toNat, by omega⟩
    have hk : k < l.length := by omega
    have HR := Lib.hid (HY.out k rfl)
    have hin : inB ((k : Int) + 1) 1 ((l.length : Nat) : Int) = true := inB_yes (by omega)
    rw [hin] at HI
    clear hin HN HY h0
    go_enter Tryz.func8, Tryz.ntmps8
    go_wp2_with fail
    refine (HLA.out _ (by repeat (first | exact Ext.refl _ | apply Ext.alloc))).mono ?_
    rintro e w1 ⟨A5, c5, rfl, i5, j5, hm5, x1⟩
    have X1 : Ext w w1 := Ext.trans (by repeat (first | exact Ext.refl _ | apply Ext.alloc)) x1
    replace q0 := x1.cell q0
    replace q1 := x1.cell q1
    obtain ⟨G, rfl⟩ := hm5.some_ (by omega)
    have hcG := hm5.at_ hk
    clear hm5
    go_wp2_with fail
    refine (HNO.out _ X1).mono ?_
    rintro e w2 ⟨rfl, x2⟩
    have X2 := X1.trans x2
    replace hcG := x2.cell hcG
    go_wp2_with fail
    refine (HI.out _).mono ?_
    rintro e w3 ⟨rfl, x3⟩
    have X3 := X2.trans x3
    replace hcG := x3.cell hcG
    have u1 : (0 : Int) ≤ (k : Int) := by omega
    have u2 : (k : Int) < (l.length : Int) := by omega
    generalize ls.getD k ⟨#[]⟩ = y at *
    go_wp2
    go_ret
    exact ⟨ret_s HR.out.symm, X3⟩
set_option maxRecDepth 100000 in
set_option maxHeartbeats 4000000 in
theorem impl_FaceWithLabel (A : Option Addr) (n c : Nat) (P : Nat → Nat → Int) (B : Option Addr) (m d : Nat) (L : Nat → Nat → Int) (hnc : n ≤ c) (hcm : c ≤ 9223372036854775807) (hmd : m ≤ d) (hdm : d ≤ 9223372036854775807) (s : ByteArray) (w : World) (hr : Recs w 2 A n P) (hs : Recs w 2 B m L) :
    Calls Tryz.prog 11 #[.agg #[.slice A n c, .slice B m d], .string s] w fun e w' => e = .returned (.int .i64 (faceL n P m L s)) ∧ Ext w w' := by
  have HLA := Lib.hid (fun W (Z : Ext w W) => impl_labels A n c P B m d L hnc hcm hmd hdm W (hr.ext Z) (hs.ext Z))
  have HFN := Lib.hid (fun x (hx : (-9223372036854775808 ≤ x ∧ x ≤ 9223372036854775807)) W (Z : Ext w W) => impl_FaceWithNumber A n c P B m d L hnc hcm hmd hdm x hx W (hr.ext Z) (hs.ext Z))
  have hl20 := readV_len (n := n) (m := m) (P := P) (L := L)
  have HV := Lib.hid (show faceL n P m L s = atV n P m L (fdx (fun i => decide (s = (labsV n P m L).getD i ⟨#[]⟩)) (readV n P m L).length + 1) from rfl)
  have hbd := fdx_bd (fun i => decide (s = (labsV n P m L).getD i ⟨#[]⟩)) (readV n P m L).length
  clear hr hs
  have q0 : (w.alloc (.cells #[.slice A n c, .slice B m d] 27)).cell? ⟨w.heap.size, 0, none⟩ = some (.slice A n c) := by simp [go_sem]
  have q1 : (w.alloc (.cells #[.slice A n c, .slice B m d] 27)).cell? ⟨w.heap.size, 1, none⟩ = some (.slice B m d) := by simp [go_sem]
  have HIX := Lib.hid (fun A c base W hm => indexStr_any A (readV n P m L).length c (labsV n P m L) s (by omega) base W hm)
  generalize fdx (fun i => decide (s = (labsV n P m L).getD i ⟨#[]⟩)) (readV n P m L).length = j at *
  generalize readV n P m L = l at *
  generalize labsV n P m L = ls at *
  have f1 : IntKind.i64.wrap (j + 1) = j + 1 := by rw [IntKind.wrap_i64]; omega
  go_enter Tryz.func11, Tryz.ntmps11
  go_wp2_with fail
  go_region_held3 (fun w' => w'.cell? ⟨w.heap.size, 0, none⟩ = some (.slice A n c) ∧ w'.cell? ⟨w.heap.size, 1, none⟩ = some (.slice B m d)) (first | (exact (fun (Z : Ext (w.alloc (.cells #[.slice A n c, .slice B m d] 27)) _) => ⟨Z.cell q0, Z.cell q1⟩) (by repeat (first | with_reducible exact Ext.refl _ | with_reducible exact Xa | with_reducible apply Ext.drew | with_reducible apply Ext.alloc | with_reducible (refine Ext.setCell ?_ (by first | (simp; done) | (simp; omega)) _))))) (first
    | (go_at_call 25; refine (HLA.out _ (Ext.trans (by repeat (first | exact Ext.refl _ | apply Ext.alloc)) (by repeat (first | with_reducible exact Ext.refl _ | with_reducible exact Xa | with_reducible apply Ext.drew | with_reducible apply Ext.alloc | with_reducible (refine Ext.setCell ?_ (by first | (simp; done) | (simp; omega)) _)) : Ext (w.alloc (.cells #[.slice A n c, .slice B m d] 27)) _))).mono ?_; rintro e wa ⟨A5, c5, rfl, i5, j5, hm5, xa⟩; have Xa : Ext (w.alloc (.cells #[.slice A n c, .slice B m d] 27)) _ := Ext.trans (by repeat (first | with_reducible exact Ext.refl _ | with_reducible exact Xa | with_reducible apply Ext.drew | with_reducible apply Ext.alloc | with_reducible (refine Ext.setCell ?_ (by first | (simp; done) | (simp; omega)) _))) xa)
    | (go_at_call 28; refine (HIX.out _ _ _ _ hm5).mono ?_; rintro e wb ⟨rfl, xb⟩; replace Xa := Xa.trans xb)
    | (go_at_call 10; refine (HFN.out _ (by omega) _ (Ext.trans (by repeat (first | exact Ext.refl _ | apply Ext.alloc)) Xa)).mono ?_; rintro e wf ⟨rfl, xf⟩; replace Xa := Xa.trans xf))
  all_goals
    go_wp2
    go_ret
    exact ⟨ret_i HV.out.symm, Ext.trans (by repeat (first | exact Ext.refl _ | apply Ext.alloc)) Xa⟩

end Go.Proofs.YtgmhmlhdiklaaaaGreatDoor
