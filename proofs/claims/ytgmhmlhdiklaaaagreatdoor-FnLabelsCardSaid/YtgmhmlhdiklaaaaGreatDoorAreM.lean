/-
  Texts of one kind, one behind the other: AreaI AreaS OutV OutI OutS. No conditions.
-/
import Derived.Deep.DeepCutAuto
import Derived.Deep.CutRange
import Derived.Deep.DrawnRows
import Derived.RowKit3
import Derived.Test.YtgmhmlhdiklaaaaGreatDoorFacM
import Derived.Test.YtgmhmlhdiklaaaaGreatDoorGeoM
import Derived.Test.YtgmhmlhdiklaaaaGreatDoorCross
import Derived.Test.YtgmhmlhdiklaaaaGreatDoorFdx
import Derived.Test.YtgmhmlhdiklaaaaGreatDoorWithin
/- AreaI -/
namespace Go.Proofs.YtgmhmlhdiklaaaaGreatDoor
open Go.RowKit
set_option linter.unusedVariables false

attribute [local go_sem ↓] Go.wp_at_zero Go.wp_at_succ
attribute [local go_sem, local simp] Go.World.cell?_alloc_some Go.World.frozen?_alloc_past
theorem crsD_box {n m : Nat} {P L : Nat → Nat → Int} (hN : NodesOk n P) (hE : Ends n m L) {x : Nat} (hx : x < 2 * m) :
    (0 ≤ P (orgN L x) 0 ∧ P (orgN L x) 0 ≤ 20 ∧ 0 ≤ P (orgN L x) 1 ∧ P (orgN L x) 1 ≤ 20) ∧ (0 ≤ P (endN L x) 0 ∧ P (endN L x) 0 ≤ 20 ∧ 0 ≤ P (endN L x) 1 ∧ P (endN L x) 1 ≤ 20) ∧ (0 ≤ P (orgN L x) 0 * P (endN L x) 1 ∧ P (orgN L x) 0 * P (endN L x) 1 ≤ 400) ∧ (0 ≤ P (orgN L x) 1 * P (endN L x) 0 ∧ P (orgN L x) 1 * P (endN L x) 0 ≤ 400) ∧ -400 ≤ crsD P L x ∧ crsD P L x ≤ 400 := by
  have h1 := nodeB_rng (hN.1 _ (orgN_lt hE hx))
  have h2 := nodeB_rng (hN.1 _ (endN_lt hE hx))
  have h3 := prod_box (a := P (orgN L x) 0) (b := P (endN L x) 1) (by omega) (by omega) (by omega) (by omega)
  have h4 := prod_box (a := P (orgN L x) 1) (b := P (endN L x) 0) (by omega) (by omega) (by omega) (by omega)
  have h5 := Int.mul_nonneg (a := P (orgN L x) 0) (b := P (endN L x) 1) (by omega) (by omega)
  have h6 := Int.mul_nonneg (a := P (orgN L x) 1) (b := P (endN L x) 0) (by omega) (by omega)
  unfold crsD
  omega
theorem psum_box {f : Nat → Int} {M : Int} {t : Nat} (h : ∀ i, i < t → -M ≤ f i ∧ f i ≤ M) : -(M * (t : Int)) ≤ psum f t ∧ psum f t ≤ M * (t : Int) := by
  induction t with
  | zero => simp [psum]
  | succ t ih =>
    have h1 := ih (fun i hi => h i (by omega))
    have h2 := h t (by omega)
    show -(M * ((t + 1 : Nat) : Int)) ≤ psum f t + f t ∧ psum f t + f t ≤ M * ((t + 1 : Nat) : Int)
    rw [Int.natCast_add, Int.mul_add]
    simp only [Int.natCast_one, Int.mul_one]
    omega

set_option maxRecDepth 100000 in
set_option maxHeartbeats 200000000 in
theorem impl_areaOf (A : Option Addr) (n c : Nat) (P : Nat → Nat → Int) (B : Option Addr) (m d : Nat) (L : Nat → Nat → Int) (hnc : n ≤ c) (hcm : c ≤ 9223372036854775807) (hmd : m ≤ d) (hdm : d ≤ 9223372036854775807) (l : List Nat) (B2 : Option Addr) (c2 : Nat) (hc1 : l.length ≤ c2) (hc2 : c2 ≤ 9223372036854775807) (hwin : winB n P m L = true) (hl40 : l.length ≤ 40) (hlt : ∀ i, i < l.length → l.getD i 0 < 2 * m) (w : World) (hr : Recs w 2 A n P) (hs : Recs w 2 B m L) (hrow : Recs w 1 B2 l.length (fun i _ => ((l.getD i 0 : Nat) : Int))) :
    Calls Tryz.prog 36 #[.agg #[.slice A n c, .slice B m d], .slice B2 l.length c2] w fun e w' => e = .returned (.int .i64 (areaL P L l)) ∧ Ext w w' := by
  obtain ⟨⟨hn1, hn12, hm20⟩, hN, _⟩ := winB_get hwin
  have hE := win_ends hwin
  have HCB := Lib.hid (fun x (hx : x < 2 * m) => crsD_box hN hE hx)
  have HPS := Lib.hid (fun t (h : t ≤ l.length) => psum_box (f := fun i => crsD P L (l.getD i 0)) (M := 400) (t := t) (fun i hi => (crsD_box hN hE (hlt i (by omega))).2.2.2.2))
  have HON := Lib.hid (fun x (hx : x < 2 * m) => orgN_lt hE hx)
  have HEN := Lib.hid (fun x (hx : x < 2 * m) => endN_lt hE hx)
  have q0 : (w.alloc (.cells #[.slice A n c, .slice B m d] 27)).cell? ⟨w.heap.size, 0, none⟩ = some (.slice A n c) := by simp [go_sem]
  have q1 : (w.alloc (.cells #[.slice A n c, .slice B m d] 27)).cell? ⟨w.heap.size, 1, none⟩ = some (.slice B m d) := by simp [go_sem]
  have Q0 := Lib.hid q0
  have Q1 := Lib.hid q1
  clear q0 q1
  have HD := Lib.hid (fun W (Z : Ext w W) (x : Nat) (hx : x < 2 * m) => (show Calls Tryz.prog 59 #[.agg #[.slice A n c, .slice B m d], .int .i64 (x : Int)] W fun e w' => e = .returned (.int .i64 (orgN L x : Nat)) ∧ Ext W w' from by have z := impl_dartFrom A n c P B m d L hnc hcm hmd hdm x hx hm20 W (hr.ext Z) (hs.ext Z); rwa [orgI_eq hE hx] at z))
  have HV := Lib.hid (show areaL P L l = psum (fun i => crsD P L (l.getD i 0)) l.length from rfl)
  have HSU := Lib.hid (fun t => show psum (fun i => crsD P L (l.getD i 0)) (t + 1) = psum (fun i => crsD P L (l.getD i 0)) t + crsD P L (l.getD t 0) from rfl)
  clear hwin hN hE
  go_enter Tryz.func36, Tryz.ntmps36
  go_wp2
  go_loopw [5, 12] (fun v i wr => ∃ t : Nat, t ≤ l.length ∧ v = .int .i64 (psum (fun i => crsD P L (l.getD i 0)) t) ∧ i = .int .i64 t ∧ Ext (w.alloc (.cells #[.slice A n c, .slice B m d] 27)) wr) (fun _ i _ => l.length - (intOf i).toNat)
  case atStart => exact ⟨0, Nat.zero_le _, rfl, rfl, Ext.refl _⟩
  case round =>
    obtain ⟨t, ht, rfl, rfl, X⟩ := hrel
    have q0 := X.cell Q0.out
    have q1 := X.cell Q1.out
    have XWr := Ext.trans ((Ext.refl w).alloc _) X
    have hps := HPS.out t ht
    by_cases hlt' : t < l.length
    · obtain ⟨br, or_, rfl, hbr, c0⟩ := hrow.at1 hlt'
      replace c0 := XWr.cell c0
      have hy := hlt t hlt'
      generalize hyd : l.getD t 0 = y at *
      obtain ⟨b, o, rfl, hb, nu0, nu1⟩ := hr.at2 (HON.out y hy)
      obtain ⟨nv0, nv1⟩ := hr.cell2 (HEN.out y hy)
      replace nu0 := XWr.cell nu0
      replace nu1 := XWr.cell nu1
      replace nv0 := XWr.cell nv0
      replace nv1 := XWr.cell nv1
      have HD1 := Lib.hid (fun W Z => HD.out W Z y hy)
      have HD2 : Hid (∀ W, Ext w W → Calls Tryz.prog 59 #[.agg #[.slice (some ⟨b, o, none⟩) n c, .slice B m d], .int .i64 ((tw y : Nat) : Int)] W fun e w' => e = .returned (.int .i64 (endN L y : Nat)) ∧ Ext W w') := Lib.hid (fun W Z => HD.out W Z (tw y) (tw_lt hy))
      have by_ := bits_tw (d := y) (by omega)
      have hu := HON.out y hy
      have hv := HEN.out y hy
      have HCBy := Lib.hid (HCB.out y hy)
      have HSUt := HSU.out t
      rw [hyd] at HSUt
      replace HSUt := Lib.hid HSUt
      have u1 : (0 : Int) ≤ (t : Int) := by omega
      have u2 : (t : Int) < (l.length : Int) := by omega
      have k3 : (0 : Int) ≤ (orgN L y : Int) := by omega
      have k4 : (orgN L y : Int) < (n : Int) := by omega
      have k5 : (0 : Int) ≤ (endN L y : Int) := by omega
      have k6 : (endN L y : Int) < (n : Int) := by omega
      clear hr hs hrow
      go_upto_region 5 with fail
      go_cut [8, 9] from 13 to 44 (fun s8 s9 wx => At2 wx s8 (P (orgN L y) 0) (P (orgN L y) 1) ∧ At2 wx s9 (P (endN L y) 0) (P (endN L y) 1) ∧ Ext (w.alloc (.cells #[.slice (some ⟨b, o, none⟩) n c, .slice B m d] 27)) wx)
      case first =>
        have ZX := X.size
        rw [World.size_alloc] at ZX
        have ZX' : w.heap.size ≤ wr.heap.size := by omega
        go_region_held3 (fun w' => w'.cell? ⟨w.heap.size, 0, none⟩ = some (.slice (some ⟨b, o, none⟩) n c) ∧ w'.cell? ⟨w.heap.size, 1, none⟩ = some (.slice B m d) ∧ w'.cell? ⟨b, o + (orgN L y) * 2, none⟩ = some (.int .i64 (P (orgN L y) 0)) ∧ w'.cell? ⟨b, o + (orgN L y) * 2 + 1, none⟩ = some (.int .i64 (P (orgN L y) 1)) ∧ w'.cell? ⟨b, o + (endN L y) * 2, none⟩ = some (.int .i64 (P (endN L y) 0)) ∧ w'.cell? ⟨b, o + (endN L y) * 2 + 1, none⟩ = some (.int .i64 (P (endN L y) 1))) (exact (fun (Z : Ext wr _) => ⟨Z.cell q0, Z.cell q1, Z.cell nu0, Z.cell nu1, Z.cell nv0, Z.cell nv1⟩) (by repeat (first | with_reducible exact Ext.refl _ | with_reducible exact Xb | with_reducible exact Xa | with_reducible apply Ext.drew | with_reducible apply Ext.alloc | with_reducible (refine Ext.setCell ?_ (by first | (simp; done) | (simp; omega)) _)))) (first
          | (have _u := Xa; go_at_call 59; refine (HD2.out _ (Ext.trans XWr (by repeat (first | with_reducible exact Ext.refl _ | with_reducible exact Xb | with_reducible exact Xa | with_reducible exact X | with_reducible apply Ext.drew | with_reducible apply Ext.alloc | with_reducible (refine Ext.setCell ?_ (by first | (simp; done) | (simp; omega)) _))))).mono ?_; rintro e wb ⟨rfl, xb⟩; have Xb : Ext wr _ := Ext.trans (by repeat (first | with_reducible exact Ext.refl _ | with_reducible exact Xb | with_reducible exact Xa | with_reducible exact X | with_reducible apply Ext.drew | with_reducible apply Ext.alloc | with_reducible (refine Ext.setCell ?_ (by first | (simp; done) | (simp; omega)) _))) xb; have Zb := Xb.size; have Zab := xb.size; (try (refine (fun (hb00 : wb.cell? ⟨wr.heap.size, 0, none⟩ = some (.int .i64 0)) => ?_) ?_; rotate_left; (refine xb.cell ?_; (first | (focus (simp [go_sem]; done)) | (focus (simp [go_sem, *]; done)))))); (try (refine (fun (hb0f0 : wb.frozen? ⟨wr.heap.size, 0, none⟩ = false) => ?_) ?_; rotate_left; (refine xb.frozen (u := .int .i64 0) ?_ ?_; (first | (focus (simp [go_sem]; done)) | (focus (simp [go_sem, *]; done))); (first | (focus (simp [go_sem]; done)) | (focus (simp [go_sem, *]; done)))))); (try (refine (fun (hb01 : wb.cell? ⟨wr.heap.size, 1, none⟩ = some (.int .i64 0)) => ?_) ?_; rotate_left; (refine xb.cell ?_; (first | (focus (simp [go_sem]; done)) | (focus (simp [go_sem, *]; done)))))); (try (refine (fun (hb0f1 : wb.frozen? ⟨wr.heap.size, 1, none⟩ = false) => ?_) ?_; rotate_left; (refine xb.frozen (u := .int .i64 0) ?_ ?_; (first | (focus (simp [go_sem]; done)) | (focus (simp [go_sem, *]; done))); (first | (focus (simp [go_sem]; done)) | (focus (simp [go_sem, *]; done)))))); (try (have hb0l : wr.heap.size < wb.heap.size := World.block_lt_of_cell? _ _ hb00; have hb0l1 : wr.heap.size < wb.heap.size + 1 := Nat.lt_succ_of_lt hb0l; have hb0l2 : wr.heap.size < wb.heap.size + 1 + 1 := Nat.lt_succ_of_lt hb0l1)); (try (refine (fun (hb10 : wb.cell? ⟨wr.heap.size + 1, 0, none⟩ = some (.int .i64 0)) => ?_) ?_; rotate_left; (refine xb.cell ?_; (first | (focus (simp [go_sem]; done)) | (focus (simp [go_sem, *]; done)))))); (try (refine (fun (hb1f0 : wb.frozen? ⟨wr.heap.size + 1, 0, none⟩ = false) => ?_) ?_; rotate_left; (refine xb.frozen (u := .int .i64 0) ?_ ?_; (first | (focus (simp [go_sem]; done)) | (focus (simp [go_sem, *]; done))); (first | (focus (simp [go_sem]; done)) | (focus (simp [go_sem, *]; done)))))); (try (refine (fun (hb11 : wb.cell? ⟨wr.heap.size + 1, 1, none⟩ = some (.int .i64 0)) => ?_) ?_; rotate_left; (refine xb.cell ?_; (first | (focus (simp [go_sem]; done)) | (focus (simp [go_sem, *]; done)))))); (try (refine (fun (hb1f1 : wb.frozen? ⟨wr.heap.size + 1, 1, none⟩ = false) => ?_) ?_; rotate_left; (refine xb.frozen (u := .int .i64 0) ?_ ?_; (first | (focus (simp [go_sem]; done)) | (focus (simp [go_sem, *]; done))); (first | (focus (simp [go_sem]; done)) | (focus (simp [go_sem, *]; done)))))); (try (have hb1l : wr.heap.size + 1 < wb.heap.size := World.block_lt_of_cell? _ _ hb10; have hb1l1 : wr.heap.size + 1 < wb.heap.size + 1 := Nat.lt_succ_of_lt hb1l; have hb1l2 : wr.heap.size + 1 < wb.heap.size + 1 + 1 := Nat.lt_succ_of_lt hb1l1)); (try (refine (fun (hc00 : wb.cell? ⟨wa.heap.size, 0, none⟩ = some (.int .i64 0)) => ?_) ?_; rotate_left; (refine xb.cell ?_; (first | (focus (simp [go_sem]; done)) | (focus (simp [go_sem, *]; done)))))); (try (refine (fun (hc0f0 : wb.frozen? ⟨wa.heap.size, 0, none⟩ = false) => ?_) ?_; rotate_left; (refine xb.frozen (u := .int .i64 0) ?_ ?_; (first | (focus (simp [go_sem]; done)) | (focus (simp [go_sem, *]; done))); (first | (focus (simp [go_sem]; done)) | (focus (simp [go_sem, *]; done)))))); (try (refine (fun (hc01 : wb.cell? ⟨wa.heap.size, 1, none⟩ = some (.int .i64 0)) => ?_) ?_; rotate_left; (refine xb.cell ?_; (first | (focus (simp [go_sem]; done)) | (focus (simp [go_sem, *]; done)))))); (try (refine (fun (hc0f1 : wb.frozen? ⟨wa.heap.size, 1, none⟩ = false) => ?_) ?_; rotate_left; (refine xb.frozen (u := .int .i64 0) ?_ ?_; (first | (focus (simp [go_sem]; done)) | (focus (simp [go_sem, *]; done))); (first | (focus (simp [go_sem]; done)) | (focus (simp [go_sem, *]; done)))))); (try (have hc0l : wa.heap.size < wb.heap.size := World.block_lt_of_cell? _ _ hc00; have hc0l1 : wa.heap.size < wb.heap.size + 1 := Nat.lt_succ_of_lt hc0l; have hc0l2 : wa.heap.size < wb.heap.size + 1 + 1 := Nat.lt_succ_of_lt hc0l1)); (try (refine (fun (hc10 : wb.cell? ⟨wa.heap.size + 1, 0, none⟩ = some (.int .i64 0)) => ?_) ?_; rotate_left; (refine xb.cell ?_; (first | (focus (simp [go_sem]; done)) | (focus (simp [go_sem, *]; done)))))); (try (refine (fun (hc1f0 : wb.frozen? ⟨wa.heap.size + 1, 0, none⟩ = false) => ?_) ?_; rotate_left; (refine xb.frozen (u := .int .i64 0) ?_ ?_; (first | (focus (simp [go_sem]; done)) | (focus (simp [go_sem, *]; done))); (first | (focus (simp [go_sem]; done)) | (focus (simp [go_sem, *]; done)))))); (try (refine (fun (hc11 : wb.cell? ⟨wa.heap.size + 1, 1, none⟩ = some (.int .i64 0)) => ?_) ?_; rotate_left; (refine xb.cell ?_; (first | (focus (simp [go_sem]; done)) | (focus (simp [go_sem, *]; done)))))); (try (refine (fun (hc1f1 : wb.frozen? ⟨wa.heap.size + 1, 1, none⟩ = false) => ?_) ?_; rotate_left; (refine xb.frozen (u := .int .i64 0) ?_ ?_; (first | (focus (simp [go_sem]; done)) | (focus (simp [go_sem, *]; done))); (first | (focus (simp [go_sem]; done)) | (focus (simp [go_sem, *]; done)))))); (try (have hc1l : wa.heap.size + 1 < wb.heap.size := World.block_lt_of_cell? _ _ hc10; have hc1l1 : wa.heap.size + 1 < wb.heap.size + 1 := Nat.lt_succ_of_lt hc1l; have hc1l2 : wa.heap.size + 1 < wb.heap.size + 1 + 1 := Nat.lt_succ_of_lt hc1l1)))
          | (go_at_call 59; refine (HD1.out _ (Ext.trans XWr (by repeat (first | with_reducible exact Ext.refl _ | with_reducible exact Xb | with_reducible exact Xa | with_reducible exact X | with_reducible apply Ext.drew | with_reducible apply Ext.alloc | with_reducible (refine Ext.setCell ?_ (by first | (simp; done) | (simp; omega)) _))))).mono ?_; rintro e wa ⟨rfl, xa⟩; have Xa : Ext wr _ := Ext.trans (by repeat (first | with_reducible exact Ext.refl _ | with_reducible exact Xb | with_reducible exact Xa | with_reducible exact X | with_reducible apply Ext.drew | with_reducible apply Ext.alloc | with_reducible (refine Ext.setCell ?_ (by first | (simp; done) | (simp; omega)) _))) xa; have Za := Xa.size; (try (refine (fun (ha00 : wa.cell? ⟨wr.heap.size, 0, none⟩ = some (.int .i64 0)) => ?_) ?_; rotate_left; (refine xa.cell ?_; (first | (focus (simp [go_sem]; done)) | (focus (simp [go_sem, *]; done)))))); (try (refine (fun (ha0f0 : wa.frozen? ⟨wr.heap.size, 0, none⟩ = false) => ?_) ?_; rotate_left; (refine xa.frozen (u := .int .i64 0) ?_ ?_; (first | (focus (simp [go_sem]; done)) | (focus (simp [go_sem, *]; done))); (first | (focus (simp [go_sem]; done)) | (focus (simp [go_sem, *]; done)))))); (try (refine (fun (ha01 : wa.cell? ⟨wr.heap.size, 1, none⟩ = some (.int .i64 0)) => ?_) ?_; rotate_left; (refine xa.cell ?_; (first | (focus (simp [go_sem]; done)) | (focus (simp [go_sem, *]; done)))))); (try (refine (fun (ha0f1 : wa.frozen? ⟨wr.heap.size, 1, none⟩ = false) => ?_) ?_; rotate_left; (refine xa.frozen (u := .int .i64 0) ?_ ?_; (first | (focus (simp [go_sem]; done)) | (focus (simp [go_sem, *]; done))); (first | (focus (simp [go_sem]; done)) | (focus (simp [go_sem, *]; done)))))); (try (have ha0l : wr.heap.size < wa.heap.size := World.block_lt_of_cell? _ _ ha00; have ha0l1 : wr.heap.size < wa.heap.size + 1 := Nat.lt_succ_of_lt ha0l; have ha0l2 : wr.heap.size < wa.heap.size + 1 + 1 := Nat.lt_succ_of_lt ha0l1)); (try (refine (fun (ha10 : wa.cell? ⟨wr.heap.size + 1, 0, none⟩ = some (.int .i64 0)) => ?_) ?_; rotate_left; (refine xa.cell ?_; (first | (focus (simp [go_sem]; done)) | (focus (simp [go_sem, *]; done)))))); (try (refine (fun (ha1f0 : wa.frozen? ⟨wr.heap.size + 1, 0, none⟩ = false) => ?_) ?_; rotate_left; (refine xa.frozen (u := .int .i64 0) ?_ ?_; (first | (focus (simp [go_sem]; done)) | (focus (simp [go_sem, *]; done))); (first | (focus (simp [go_sem]; done)) | (focus (simp [go_sem, *]; done)))))); (try (refine (fun (ha11 : wa.cell? ⟨wr.heap.size + 1, 1, none⟩ = some (.int .i64 0)) => ?_) ?_; rotate_left; (refine xa.cell ?_; (first | (focus (simp [go_sem]; done)) | (focus (simp [go_sem, *]; done)))))); (try (refine (fun (ha1f1 : wa.frozen? ⟨wr.heap.size + 1, 1, none⟩ = false) => ?_) ?_; rotate_left; (refine xa.frozen (u := .int .i64 0) ?_ ?_; (first | (focus (simp [go_sem]; done)) | (focus (simp [go_sem, *]; done))); (first | (focus (simp [go_sem]; done)) | (focus (simp [go_sem, *]; done)))))); (try (have ha1l : wr.heap.size + 1 < wa.heap.size := World.block_lt_of_cell? _ _ ha10; have ha1l1 : wr.heap.size + 1 < wa.heap.size + 1 := Nat.lt_succ_of_lt ha1l; have ha1l2 : wr.heap.size + 1 < wa.heap.size + 1 + 1 := Nat.lt_succ_of_lt ha1l1))))
        all_goals
          go_wp2_with fail
          go_meet
          refine ⟨⟨_, rfl, ?_, ?_⟩, ⟨_, rfl, ?_, ?_⟩, Ext.trans X ?_⟩
          all_goals first | (focus ((repeat (first | with_reducible exact Ext.refl _ | with_reducible exact Xb | with_reducible exact Xa | with_reducible exact X | with_reducible apply Ext.drew | with_reducible apply Ext.alloc | with_reducible (refine Ext.setCell ?_ (by first | (simp; done) | (simp; omega)) _))); done)) | (focus (simp [go_sem]; done)) | (focus (simp [go_sem, *]; done))
      case rest =>
      obtain ⟨⟨g8, rfl, a0, a1⟩, ⟨g9, rfl, b0, b1⟩, X4⟩ := hcut
      clear nu0 nu1 nv0 nv1 c0 q0 q1
      obtain ⟨e1, e2, e3, e4, e5⟩ := HCBy.out
      have hcr : crsD P L y = P (orgN L y) 0 * P (endN L y) 1 - P (orgN L y) 1 * P (endN L y) 0 := rfl
      generalize P (orgN L y) 0 = p0 at *
      generalize P (orgN L y) 1 = p1 at *
      generalize P (endN L y) 0 = z0 at *
      generalize P (endN L y) 1 = z1 at *
      generalize hm1 : p0 * z1 = y1 at *
      generalize hm2 : p1 * z0 = y2 at *
      generalize psum (fun i => crsD P L (l.getD i 0)) t = S at *
      go_wp2
      go_roundw
      case rel => exact ⟨t + 1, by omega, by rw [HSUt.out, hcr], by go_num, X4⟩
      case measure => simp [intOf]; omega
    · obtain rfl : t = l.length := by omega
      go_wp2
      go_ret
      exact ⟨ret_i HV.out.symm, XWr⟩

end Go.Proofs.YtgmhmlhdiklaaaaGreatDoor

/- AreaS -/
namespace Go.Proofs.YtgmhmlhdiklaaaaGreatDoor
open Go.RowKit
set_option linter.unusedVariables false

set_option maxRecDepth 100000 in
set_option maxHeartbeats 20000000 in
theorem spec_l06Area (A : Option Addr) (n c : Nat) (P : Nat → Nat → Int) (B : Option Addr) (m d : Nat) (L : Nat → Nat → Int) (hnc : n ≤ c) (hcm : c ≤ 9223372036854775807) (hmd : m ≤ d) (hdm : d ≤ 9223372036854775807) (l : List Nat) (B2 : Option Addr) (c2 : Nat) (hc1 : l.length ≤ c2) (hc2 : c2 ≤ 9223372036854775807) (hwin : winB n P m L = true) (hl40 : l.length ≤ 40) (hlt : ∀ i, i < l.length → l.getD i 0 < 2 * m) (w : World) (hr : Recs w 2 A n P) (hs : Recs w 2 B m L) (hrow : Recs w 1 B2 l.length (fun i _ => ((l.getD i 0 : Nat) : Int))) :
    Calls Tryz.prog 29 #[.agg #[.slice A n c, .slice B m d], .slice B2 l.length c2] w fun e w' => e = .returned (.int .i64 (areaL P L l)) ∧ Ext w w' := by
  obtain ⟨⟨hn1, hn12, hm20⟩, hN, _⟩ := winB_get hwin
  have hE := win_ends hwin
  have HCB := Lib.hid (fun x (hx : x < 2 * m) => crsD_box hN hE hx)
  have HPS := Lib.hid (fun t (h : t ≤ l.length) => psum_box (f := fun i => crsD P L (l.getD i 0)) (M := 400) (t := t) (fun i hi => (crsD_box hN hE (hlt i (by omega))).2.2.2.2))
  have HON := Lib.hid (fun x (hx : x < 2 * m) => orgN_lt hE hx)
  have HEN := Lib.hid (fun x (hx : x < 2 * m) => endN_lt hE hx)
  have q0 : (w.alloc (.cells #[.slice A n c, .slice B m d] 27)).cell? ⟨w.heap.size, 0, none⟩ = some (.slice A n c) := by simp [go_sem]
  have q1 : (w.alloc (.cells #[.slice A n c, .slice B m d] 27)).cell? ⟨w.heap.size, 1, none⟩ = some (.slice B m d) := by simp [go_sem]
  have Q0 := Lib.hid q0
  have Q1 := Lib.hid q1
  clear q0 q1
  have HD := Lib.hid (fun W (Z : Ext w W) (x : Nat) (hx : x < 2 * m) => (show Calls Tryz.prog 44 #[.agg #[.slice A n c, .slice B m d], .int .i64 (x : Int)] W fun e w' => e = .returned (.tuple #[.int .i64 (orgN L x : Nat), .int .i64 (endN L x : Nat)]) ∧ Ext W w' from by have z := spec_l05Ends A n c P B m d L hnc hcm hmd hdm x hx hm20 W (hr.ext Z) (hs.ext Z); rwa [orgI_eq hE hx, orgI_eq hE (tw_lt hx)] at z))
  have HV := Lib.hid (show areaL P L l = psum (fun i => crsD P L (l.getD i 0)) l.length from rfl)
  have HSU := Lib.hid (fun t => show psum (fun i => crsD P L (l.getD i 0)) (t + 1) = psum (fun i => crsD P L (l.getD i 0)) t + crsD P L (l.getD t 0) from rfl)
  clear hwin hN hE
  go_enter Tryz.func29, Tryz.ntmps29
  go_wp2
  go_loopw [5, 6] (fun v i wr => ∃ t : Nat, t ≤ l.length ∧ v = .int .i64 (psum (fun i => crsD P L (l.getD i 0)) t) ∧ i = .int .i64 t ∧ Ext (w.alloc (.cells #[.slice A n c, .slice B m d] 27)) wr) (fun _ i _ => l.length - (intOf i).toNat)
  case atStart => exact ⟨0, Nat.zero_le _, rfl, rfl, Ext.refl _⟩
  case round =>
    obtain ⟨t, ht, rfl, rfl, X⟩ := hrel
    have q0 := X.cell Q0.out
    have q1 := X.cell Q1.out
    have XWr := Ext.trans ((Ext.refl w).alloc _) X
    have hps := HPS.out t ht
    by_cases hlt' : t < l.length
    · obtain ⟨br, or_, rfl, hbr, c0⟩ := hrow.at1 hlt'
      replace c0 := XWr.cell c0
      have hy := hlt t hlt'
      generalize hyd : l.getD t 0 = y at *
      obtain ⟨b, o, rfl, hb, nu0, nu1⟩ := hr.at2 (HON.out y hy)
      obtain ⟨nv0, nv1⟩ := hr.cell2 (HEN.out y hy)
      have HD1 := Lib.hid (fun W Z => HD.out W Z y hy)
      have hu := HON.out y hy
      have hv := HEN.out y hy
      have HCBy := Lib.hid (HCB.out y hy)
      have HSUt := HSU.out t
      rw [hyd] at HSUt
      replace HSUt := Lib.hid HSUt
      have u1 : (0 : Int) ≤ (t : Int) := by omega
      have u2 : (t : Int) < (l.length : Int) := by omega
      have k3 : (0 : Int) ≤ (orgN L y : Int) := by omega
      have k4 : (orgN L y : Int) < (n : Int) := by omega
      have k5 : (0 : Int) ≤ (endN L y : Int) := by omega
      have k6 : (endN L y : Int) < (n : Int) := by omega
      have NU0 := Lib.hid nu0
      have NU1 := Lib.hid nu1
      have NV0 := Lib.hid nv0
      have NV1 := Lib.hid nv1
      clear hr hs hrow nu0 nu1 nv0 nv1
      go_wp2
      first | refine wp_region_gr2 (by kernel_rfl) (by kernel_rfl) ?_ | refine wp_region_gr (by kernel_rfl) (by kernel_rfl) ?_
      repeat (go_big_quiet_step ((go_at_call 44; exact gr_of (HD1.out _ (XWr.trans (by repeat (first | exact Ext.refl _ | apply Ext.wgr | apply Ext.drew | apply Ext.drewN | apply Ext.alloc)))))))
      refine wpQuiet_nil ?_
      intro _ hw'
      obtain ⟨gq, hw''⟩ := hw'
      subst hw''
      have X5 := X.wgr gq
      have XW5 := XWr.wgr gq
      clear c0 q0 q1 X XWr
      generalize wgr wr gq = w5 at *
      have q0 := X5.cell Q0.out
      have q1 := X5.cell Q1.out
      have nu0 := XW5.cell NU0.out
      have nu1 := XW5.cell NU1.out
      have nv0 := XW5.cell NV0.out
      have nv1 := XW5.cell NV1.out
      obtain ⟨e1, e2, e3, e4, e5⟩ := HCBy.out
      have hcr : crsD P L y = P (orgN L y) 0 * P (endN L y) 1 - P (orgN L y) 1 * P (endN L y) 0 := rfl
      generalize P (orgN L y) 0 = p0 at *
      generalize P (orgN L y) 1 = p1 at *
      generalize P (endN L y) 0 = z0 at *
      generalize P (endN L y) 1 = z1 at *
      generalize hm1 : p0 * z1 = y1 at *
      generalize hm2 : p1 * z0 = y2 at *
      generalize psum (fun i => crsD P L (l.getD i 0)) t = S at *
      go_wp2_with fail
      first | refine wp_region_gr2 (by kernel_rfl) (by kernel_rfl) ?_ | refine wp_region_gr (by kernel_rfl) (by kernel_rfl) ?_
      repeat (go_big_quiet_step (fail))
      refine wpQuiet_nil ?_
      intro _ hw'
      obtain ⟨gq, hw''⟩ := hw'
      subst hw''
      have X6 := X5.wgr gq
      go_wp2
      go_roundw
      case rel => exact ⟨t + 1, by omega, by rw [HSUt.out, hcr]; go_num, by go_num, X6⟩
      case measure => simp [intOf]; omega
    · obtain rfl : t = l.length := by omega
      go_wp2
      go_ret
      exact ⟨ret_i HV.out.symm, XWr⟩

end Go.Proofs.YtgmhmlhdiklaaaaGreatDoor

/- OutV -/
namespace Go.Proofs.YtgmhmlhdiklaaaaGreatDoor
open Go.RowKit Ring
set_option linter.unusedVariables false

def faceA (n : Nat) (P : Nat → Nat → Int) (m : Nat) (L : Nat → Nat → Int) (k : Nat) : Int := areaL P L ((facesV n P m L).getD k [])
def outerV (n : Nat) (P : Nat → Nat → Int) (m : Nat) (L : Nat → Nat → Int) : Int := fdx (fun k => decide (faceA n P m L k ≤ 0)) (facesV n P m L).length
def absI (x : Int) : Int := max x (-x)
def areaV (n : Nat) (P : Nat → Nat → Int) (m : Nat) (L : Nat → Nat → Int) (f : Int) : Int := if inB f 0 (((facesV n P m L).length : Nat) - 1 : Int) = true then absI (faceA n P m L f.toNat) else -1
def totalV (n : Nat) (P : Nat → Nat → Int) (m : Nat) (L : Nat → Nat → Int) : Int := areaV n P m L (outerV n P m L)
theorem psum_box' {f : Nat → Int} {M : Int} {t : Nat} (h : ∀ i, i < t → -M ≤ f i ∧ f i ≤ M) : -(M * (t : Int)) ≤ psum f t ∧ psum f t ≤ M * (t : Int) := psum_box h
section
variable {n m : Nat} {P L : Nat → Nat → Int}
theorem faces_pos (h : 0 < (facesV n P m L).length) : wholeB n P m L = true := by
  cases e : wholeB n P m L
  · rw [facesV_no e] at h; simp at h
  · rfl
theorem faces_len : (facesV n P m L).length ≤ 20 := by
  rcases Nat.eq_zero_or_pos (facesV n P m L).length with h | h
  · omega
  · have hw := faces_pos h
    rw [facesV_yes hw]
    obtain ⟨hwin, _, _⟩ := wholeB_get hw
    have := fcs_few (P := P) (win_ends0 hwin)
    have := (winB_get hwin).1.2.2
    omega
theorem faces_row {k : Nat} (hk : k < (facesV n P m L).length) : winB n P m L = true ∧ 1 ≤ ((facesV n P m L).getD k []).length ∧ ((facesV n P m L).getD k []).length ≤ 40 ∧ ∀ i, i < ((facesV n P m L).getD k []).length → ((facesV n P m L).getD k []).getD i 0 < 2 * m := by
  have hw := faces_pos (Nat.lt_of_le_of_lt (Nat.zero_le _) hk)
  obtain ⟨hwin, _, _⟩ := wholeB_get hw
  rw [facesV_yes hw] at hk ⊢
  have hmem : (fcs P L m).getD k [] ∈ fcs P L m := by
    rw [List.getD_eq_getElem?_getD, List.getElem?_eq_getElem hk]; exact List.getElem_mem hk
  have hl := fcs_len hmem
  have hm := (winB_get hwin).1.2.2
  refine ⟨hwin, hl.1, by omega, fun i hi => fcs_lt hmem ?_⟩
  rw [List.getD_eq_getElem?_getD (l := (fcs P L m).getD k []), List.getElem?_eq_getElem hi]; exact List.getElem_mem hi
theorem faceA_box {k : Nat} (hk : k < (facesV n P m L).length) : -16000 ≤ faceA n P m L k ∧ faceA n P m L k ≤ 16000 := by
  obtain ⟨hwin, _, h40, hlt⟩ := faces_row hk
  have hN := (winB_get hwin).2.1
  have := psum_box (f := fun i => crsD P L (((facesV n P m L).getD k []).getD i 0)) (M := 400) (t := ((facesV n P m L).getD k []).length) (fun i hi => (crsD_box hN (win_ends hwin) (hlt i hi)).2.2.2.2)
  unfold faceA areaL
  omega
theorem outerV_cases : (outerV n P m L = -1 ∧ ∀ k, k < (facesV n P m L).length → 0 < faceA n P m L k) ∨ ∃ k : Nat, k < (facesV n P m L).length ∧ outerV n P m L = k ∧ faceA n P m L k ≤ 0 ∧ ∀ j, j < k → 0 < faceA n P m L j := by
  rcases fdx_cases (fun k => decide (faceA n P m L k ≤ 0)) (facesV n P m L).length with ⟨h1, h2⟩ | ⟨j, h1, h2, h3, h4⟩
  · left
    exact ⟨h2, fun k hk => by have := h1 k hk; simpa using this⟩
  · right
    exact ⟨j, h1, h4, by simpa using h2, fun i hi => by have := h3 i hi; simpa using this⟩
theorem outerV_rng : -1 ≤ outerV n P m L ∧ outerV n P m L < 20 := by
  have := faces_len (n := n) (m := m) (P := P) (L := L)
  rcases outerV_cases (n := n) (m := m) (P := P) (L := L) with ⟨h, _⟩ | ⟨k, h1, h2, _⟩ <;> omega
theorem areaV_yes {k : Nat} (hk : k < (facesV n P m L).length) : areaV n P m L (k : Int) = absI (faceA n P m L k) := by
  unfold areaV
  rw [if_pos (inB_yes (by omega))]; rfl
theorem areaV_no {f : Int} (hf : inB f 0 (((facesV n P m L).length : Nat) - 1 : Int) = false) : areaV n P m L f = -1 := if_neg (by rw [hf]; simp)
theorem areaV_rng (f : Int) : -1 ≤ areaV n P m L f ∧ areaV n P m L f ≤ 16000 := by
  cases h : inB f 0 (((facesV n P m L).length : Nat) - 1 : Int)
  · rw [areaV_no h]; omega
  · have := inB_of h
    have hb := faceA_box (n := n) (m := m) (P := P) (L := L) (k := f.toNat) (by omega)
    unfold areaV absI
    rw [if_pos h]
    omega
end
end Go.Proofs.YtgmhmlhdiklaaaaGreatDoor

/- OutI -/
namespace Go.Proofs.YtgmhmlhdiklaaaaGreatDoor
open Go.RowKit Ring
set_option linter.unusedVariables false

set_option maxRecDepth 100000 in
set_option maxHeartbeats 8000000 in
theorem impl_OuterFace (A : Option Addr) (n c : Nat) (P : Nat → Nat → Int) (B : Option Addr) (m d : Nat) (L : Nat → Nat → Int) (hnc : n ≤ c) (hcm : c ≤ 9223372036854775807) (hmd : m ≤ d) (hdm : d ≤ 9223372036854775807) (w : World) (hr : Recs w 2 A n P) (hs : Recs w 2 B m L) :
    Calls Tryz.prog 17 #[.agg #[.slice A n c, .slice B m d]] w fun e w' => e = .returned (.int .i64 (outerV n P m L)) ∧ Ext w w' := by
  have HFO := Lib.hid (fun W (Z : Ext w W) => impl_FacesOf A n c P B m d L hnc hcm hmd hdm W (hr.ext Z) (hs.ext Z))
  have HAR := Lib.hid (fun k (hk : k < (facesV n P m L).length) (B2 : Option Addr) (c2 : Nat) (h1 : ((facesV n P m L).getD k []).length ≤ c2) (h2 : c2 ≤ 9223372036854775807) W (Z : Ext w W) (hrow : Recs W 1 B2 ((facesV n P m L).getD k []).length (fun i _ => ((((facesV n P m L).getD k []).getD i 0 : Nat) : Int))) => (show Calls Tryz.prog 36 #[.agg #[.slice A n c, .slice B m d], .slice B2 ((facesV n P m L).getD k []).length c2] W fun e w' => e = .returned (.int .i64 (faceA n P m L k)) ∧ Ext W w' from impl_areaOf A n c P B m d L hnc hcm hmd hdm ((facesV n P m L).getD k []) B2 c2 h1 h2 (faces_row hk).1 (faces_row hk).2.2.1 (faces_row hk).2.2.2 W (hr.ext Z) (hs.ext Z) hrow))
  have HV := Lib.hid (show outerV n P m L = fdx (fun k => decide (faceA n P m L k ≤ 0)) (facesV n P m L).length from rfl)
  have HBX := Lib.hid (fun k (hk : k < (facesV n P m L).length) => faceA_box hk)
  have hlen := faces_len (n := n) (m := m) (P := P) (L := L)
  have q0 : (w.alloc (.cells #[.slice A n c, .slice B m d] 27)).cell? ⟨w.heap.size, 0, none⟩ = some (.slice A n c) := by simp [go_sem]
  have q1 : (w.alloc (.cells #[.slice A n c, .slice B m d] 27)).cell? ⟨w.heap.size, 1, none⟩ = some (.slice B m d) := by simp [go_sem]
  generalize facesV n P m L = R at *
  generalize faceA n P m L = fa at *
  go_enter Tryz.func17, Tryz.ntmps17
  go_wp2_with fail
  refine (HFO.out _ (by repeat (first | exact Ext.refl _ | apply Ext.alloc))).mono ?_
  rintro e w1 ⟨AF, cF, rfl, iF, jF, hF, x1⟩
  have X1 : Ext w w1 := Ext.trans (by repeat (first | exact Ext.refl _ | apply Ext.alloc)) x1
  replace q0 := x1.cell q0
  replace q1 := x1.cell q1
  have Q0 := Lib.hid q0
  have Q1 := Lib.hid q1
  have HF := Lib.hid hF
  clear x1 hF HFO q0 q1
  have q0 := Q0.out
  have q1 := Q1.out
  go_wp2
  go_loopw [8] (fun i wr => ∃ t : Nat, t ≤ R.length ∧ i = .int .i64 t ∧ Ext w1 wr ∧ ∀ j, j < t → decide (fa j ≤ 0) = false) (fun i _ => R.length - (intOf i).toNat)
  case atStart => exact ⟨0, Nat.zero_le _, rfl, Ext.refl _, fun j hj => absurd hj (by omega)⟩
  case round =>
    clear q0 q1
    obtain ⟨t, ht, rfl, X, hall⟩ := hrel
    have HALL := Lib.hid hall
    clear hall
    have q0 := X.cell Q0.out
    have q1 := X.cell Q1.out
    by_cases hlt : t < R.length
    · obtain ⟨b', o', Bk, ck, rfl, hb', hck, i1, i2, hrow⟩ := HF.out.at_ hlt
      replace hck := X.cell hck
      have hbx := HBX.out t hlt
      have XW := X1.trans X
      have HAk := Lib.hid (fun W (Z : Ext wr W) => HAR.out t hlt Bk ck i1 i2 W (XW.trans Z) (hrow.ext (X.trans Z)))
      have k1 : (0 : Int) ≤ (t : Int) := by omega
      have k2 : (t : Int) < (R.length : Int) := by omega
      have hl0 : (0 : Int) ≤ ((R.getD t []).length : Int) := by omega
      generalize hft : fa t = a at *
      generalize R.getD t [] = r at *
      clear hrow
      by_cases ha : a ≤ 0
      · have HFD := Lib.hid (fdx_at (g := fun k => decide (fa k ≤ 0)) hlt (by rw [hft]; simpa using ha) HALL.out)
        go_wp2_with fail
        refine (HAk.out _ (Ext.refl _)).mono ?_
        rintro e w5 ⟨rfl, x5⟩
        have X5 := X.trans x5
        go_wp2
        go_ret
        exact ⟨ret_i (by rw [HV.out, HFD.out]), X1.trans X5⟩
      · have HALL2 : Hid (∀ j, j < t + 1 → decide (fa j ≤ 0) = false) := Lib.hid (fun j hj => by
          by_cases e : j = t
          · rw [e, hft]; simpa using ha
          · exact HALL.out j (by omega))
        go_wp2_with fail
        refine (HAk.out _ (Ext.refl _)).mono ?_
        rintro e w5 ⟨rfl, x5⟩
        have X5 := X.trans x5
        go_wp2
        go_roundw
        case rel => exact ⟨t + 1, by omega, by go_num, X5, HALL2.out⟩
        case measure => simp [intOf]; omega
    · obtain rfl : t = R.length := by omega
      have HFD := Lib.hid (fdx_none (g := fun k => decide (fa k ≤ 0)) HALL.out)
      go_wp2
      go_ret
      exact ⟨ret_i (by rw [HV.out, HFD.out]), X1.trans X⟩

end Go.Proofs.YtgmhmlhdiklaaaaGreatDoor

/- OutS -/
namespace Go.Proofs.YtgmhmlhdiklaaaaGreatDoor
open Go.RowKit Ring
set_option linter.unusedVariables false

set_option maxRecDepth 100000 in
set_option maxHeartbeats 8000000 in
theorem spec_OuterFace (A : Option Addr) (n c : Nat) (P : Nat → Nat → Int) (B : Option Addr) (m d : Nat) (L : Nat → Nat → Int) (hnc : n ≤ c) (hcm : c ≤ 9223372036854775807) (hmd : m ≤ d) (hdm : d ≤ 9223372036854775807) (w : World) (hr : Recs w 2 A n P) (hs : Recs w 2 B m L) :
    Calls Tryz.prog 12 #[.agg #[.slice A n c, .slice B m d]] w fun e w' => e = .returned (.int .i64 (outerV n P m L)) ∧ Ext w w' := by
  have HFO := Lib.hid (fun W (Z : Ext w W) => spec_FacesOf A n c P B m d L hnc hcm hmd hdm W (hr.ext Z) (hs.ext Z))
  have HAR := Lib.hid (fun k (hk : k < (facesV n P m L).length) (B2 : Option Addr) (c2 : Nat) (h1 : ((facesV n P m L).getD k []).length ≤ c2) (h2 : c2 ≤ 9223372036854775807) W (Z : Ext w W) (hrow : Recs W 1 B2 ((facesV n P m L).getD k []).length (fun i _ => ((((facesV n P m L).getD k []).getD i 0 : Nat) : Int))) => (show Calls Tryz.prog 29 #[.agg #[.slice A n c, .slice B m d], .slice B2 ((facesV n P m L).getD k []).length c2] W fun e w' => e = .returned (.int .i64 (faceA n P m L k)) ∧ Ext W w' from spec_l06Area A n c P B m d L hnc hcm hmd hdm ((facesV n P m L).getD k []) B2 c2 h1 h2 (faces_row hk).1 (faces_row hk).2.2.1 (faces_row hk).2.2.2 W (hr.ext Z) (hs.ext Z) hrow))
  have HV := Lib.hid (show outerV n P m L = fdx (fun k => decide (faceA n P m L k ≤ 0)) (facesV n P m L).length from rfl)
  have HBX := Lib.hid (fun k (hk : k < (facesV n P m L).length) => faceA_box hk)
  have hlen := faces_len (n := n) (m := m) (P := P) (L := L)
  have q0 : (w.alloc (.cells #[.slice A n c, .slice B m d] 27)).cell? ⟨w.heap.size, 0, none⟩ = some (.slice A n c) := by simp [go_sem]
  have q1 : (w.alloc (.cells #[.slice A n c, .slice B m d] 27)).cell? ⟨w.heap.size, 1, none⟩ = some (.slice B m d) := by simp [go_sem]
  generalize facesV n P m L = R at *
  generalize faceA n P m L = fa at *
  go_enter Tryz.func12, Tryz.ntmps12
  go_wp2_with fail
  refine (HFO.out _ (by repeat (first | exact Ext.refl _ | apply Ext.alloc))).mono ?_
  rintro e w1 ⟨AF, cF, rfl, iF, jF, hF, x1⟩
  have X1 : Ext w w1 := Ext.trans (by repeat (first | exact Ext.refl _ | apply Ext.alloc)) x1
  replace q0 := x1.cell q0
  replace q1 := x1.cell q1
  have Q0 := Lib.hid q0
  have Q1 := Lib.hid q1
  have HF := Lib.hid hF
  clear x1 hF HFO q0 q1
  have q0 := Q0.out
  have q1 := Q1.out
  go_wp2
  go_loopw [4] (fun i wr => ∃ t : Nat, t ≤ R.length ∧ i = .int .i64 t ∧ Ext w1 wr ∧ ∀ j, j < t → decide (fa j ≤ 0) = false) (fun i _ => R.length - (intOf i).toNat)
  case atStart => exact ⟨0, Nat.zero_le _, rfl, Ext.refl _, fun j hj => absurd hj (by omega)⟩
  case round =>
    clear q0 q1
    obtain ⟨t, ht, rfl, X, hall⟩ := hrel
    have HALL := Lib.hid hall
    clear hall
    have q0 := X.cell Q0.out
    have q1 := X.cell Q1.out
    by_cases hlt : t < R.length
    · obtain ⟨b', o', Bk, ck, rfl, hb', hck, i1, i2, hrow⟩ := HF.out.at_ hlt
      replace hck := X.cell hck
      have hbx := HBX.out t hlt
      have XW := X1.trans X
      have HAk := Lib.hid (fun W (Z : Ext wr W) => HAR.out t hlt Bk ck i1 i2 W (XW.trans Z) (hrow.ext (X.trans Z)))
      have k1 : (0 : Int) ≤ (t : Int) := by omega
      have k2 : (t : Int) < (R.length : Int) := by omega
      have hl0 : (0 : Int) ≤ ((R.getD t []).length : Int) := by omega
      generalize hft : fa t = a at *
      generalize R.getD t [] = r at *
      clear hrow
      by_cases ha : a ≤ 0
      · have HFD := Lib.hid (fdx_at (g := fun k => decide (fa k ≤ 0)) hlt (by rw [hft]; simpa using ha) HALL.out)
        go_wp2
        first | refine wp_region_gr2 (by kernel_rfl) (by kernel_rfl) ?_ | refine wp_region_gr (by kernel_rfl) (by kernel_rfl) ?_
        repeat (go_big_quiet_step ((go_at_call 29; exact gr_of (HAk.out _ (by repeat (first | exact Ext.refl _ | apply Ext.wgr | apply Ext.drew | apply Ext.drewN | apply Ext.alloc))))))
        refine wpQuiet_nil ?_
        intro _ hw'
        obtain ⟨gq, hw''⟩ := hw'
        subst hw''
        have X5 := X.wgr gq
        go_wp2
        go_ret
        exact ⟨ret_i (by rw [HV.out, HFD.out]), X1.trans X5⟩
      · have HALL2 : Hid (∀ j, j < t + 1 → decide (fa j ≤ 0) = false) := Lib.hid (fun j hj => by
          by_cases e : j = t
          · rw [e, hft]; simpa using ha
          · exact HALL.out j (by omega))
        go_wp2
        first | refine wp_region_gr2 (by kernel_rfl) (by kernel_rfl) ?_ | refine wp_region_gr (by kernel_rfl) (by kernel_rfl) ?_
        repeat (go_big_quiet_step ((go_at_call 29; exact gr_of (HAk.out _ (by repeat (first | exact Ext.refl _ | apply Ext.wgr | apply Ext.drew | apply Ext.drewN | apply Ext.alloc))))))
        refine wpQuiet_nil ?_
        intro _ hw'
        obtain ⟨gq, hw''⟩ := hw'
        subst hw''
        have X5 := X.wgr gq
        go_wp2
        go_roundw
        case rel => exact ⟨t + 1, by omega, by go_num, X5, HALL2.out⟩
        case measure => simp [intOf]; omega
    · obtain rfl : t = R.length := by omega
      have HFD := Lib.hid (fdx_none (g := fun k => decide (fa k ≤ 0)) HALL.out)
      go_wp2
      go_ret
      exact ⟨ret_i (by rw [HV.out, HFD.out]), X1.trans X⟩

end Go.Proofs.YtgmhmlhdiklaaaaGreatDoor
