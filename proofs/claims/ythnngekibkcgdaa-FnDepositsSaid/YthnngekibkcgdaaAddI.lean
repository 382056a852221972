/-
  The adding of a deposit, on the program's side. No conditions.
-/
import Derived.Deep.DeepCutAuto
import Derived.Deep.CutRange
import Derived.Deep.DrawnRows
import Derived.RowKit3
import Derived.Test.YthnngekibkcgdaaAddV
namespace Go.Proofs.Ythnngekibkcgdaa
open Go.RowKit
set_option linter.unusedVariables false

attribute [local go_sem ↓] Go.wp_at_zero Go.wp_at_succ
attribute [local go_sem, local simp] Go.World.cell?_alloc_some Go.World.frozen?_alloc_past

set_option maxRecDepth 100000 in
set_option maxHeartbeats 4000000 in
theorem impl_AddDeposit (A : Option Addr) (n c : Nat) (f : Nat → Nat → Int) (hnc : n ≤ c) (hcm : c ≤ 9223372036854775807) (hA : A = none → n = 0 ∧ c = 0) (hn : n ≤ 1048576) (x y z : Int) (ix_ : I64 x) (iy : I64 y) (iz : I64 z) (w : World) (hr : Recs w 3 A n f) :
    Calls Try.prog 11 #[.slice A n c, .agg #[.int .i64 x, .int .i64 y, .int .i64 z]] w (PostSB w (addN n f x y z) (addL n f x y z) (addB n f x y z)) := by
  have HCP := Lib.hid (fun W (Z : Ext w W) => copyDeposits_any A n c f hnc hcm hA (by omega) W (hr.ext Z))
  have HDO := Lib.hid (fun W (Z : Ext w W) => impl_DepositsOk A n c f hnc hcm W (hr.ext Z))
  have HAB := Lib.hid (show addB n f x y z = (depB n f && depB (n + 1) (fun k j => ix (addZ n f x y z) (k * 3 + j))) from rfl)
  have HAN := Lib.hid (show addN n f x y z = if addB n f x y z = true then n + 1 else n from rfl)
  have HAL := Lib.hid (show addL n f x y z = if addB n f x y z = true then addZ n f x y z else flat 3 n f from rfl)
  have HZZ := Lib.hid (show addZ n f x y z = flat 3 n f ++ [x, y, z] from rfl)
  have q0 : (w.alloc (.cells #[.int .i64 x, .int .i64 y, .int .i64 z] 31)).cell? ⟨w.heap.size, 0, none⟩ = some (.int .i64 x) := by simp [go_sem]
  have q1 : (w.alloc (.cells #[.int .i64 x, .int .i64 y, .int .i64 z] 31)).cell? ⟨w.heap.size, 1, none⟩ = some (.int .i64 y) := by simp [go_sem]
  have q2 : (w.alloc (.cells #[.int .i64 x, .int .i64 y, .int .i64 z] 31)).cell? ⟨w.heap.size, 2, none⟩ = some (.int .i64 z) := by simp [go_sem]
  clear hr
  generalize addB n f x y z = ab at *
  generalize addN n f x y z = an at *
  generalize addL n f x y z = al at *
  go_enter Try.func11, Try.ntmps11
  go_upto_region 1 with fail
  go_cut [6] from 7 to 11 (fun s6 wx => ∃ (A5 : Option Addr) (c5 : Nat), s6 = .slice A5 (n + 1) c5 ∧ n + 1 ≤ c5 ∧ c5 ≤ 9223372036854775807 ∧ MineS (w.heap.size + 1) wx 31 3 (.slice A5 (n + 1) c5) (n + 1) (flat 3 n f ++ [x, y, z]) ∧ Ext (w.alloc (.cells #[.int .i64 x, .int .i64 y, .int .i64 z] 31)) wx)
  case first =>
    go_region_held3 (fun w' => w'.cell? ⟨w.heap.size, 0, none⟩ = some (.int .i64 x) ∧ w'.cell? ⟨w.heap.size, 1, none⟩ = some (.int .i64 y) ∧ w'.cell? ⟨w.heap.size, 2, none⟩ = some (.int .i64 z)) (exact (fun (Z : Ext (w.alloc (.cells #[.int .i64 x, .int .i64 y, .int .i64 z] 31)) _) => ⟨Z.cell q0, Z.cell q1, Z.cell q2⟩) (by repeat (first | with_reducible exact Ext.refl _ | with_reducible exact X7 | with_reducible exact Xa | with_reducible apply Ext.drew | with_reducible apply Ext.alloc))) (first
      | (go_at_call 23; refine (HCP.out _ (Ext.trans ((Ext.refl w).alloc _) (by repeat (first | with_reducible exact Ext.refl _ | with_reducible exact X7 | with_reducible exact Xa | with_reducible apply Ext.drew | with_reducible apply Ext.alloc) : Ext (w.alloc (.cells #[.int .i64 x, .int .i64 y, .int .i64 z] 31)) _))).mono ?_; rintro e wa ⟨A5, c5, rfl, i5, j5, hm5, xa⟩; have Xa : Ext (w.alloc (.cells #[.int .i64 x, .int .i64 y, .int .i64 z] 31)) _ := Ext.trans (by repeat (first | with_reducible exact Ext.refl _ | with_reducible exact X7 | with_reducible exact Xa | with_reducible apply Ext.drew | with_reducible apply Ext.alloc)) xa; have hm5' := hm5.more (base' := w.heap.size + 1) (by (try simp only [World.size_alloc, World.size_drew]); omega); (try (refine (fun (k0 : wa.cell? ⟨w.heap.size + 1, 0, none⟩ = some (.int .i64 x)) => ?_) ?_; rotate_left; (refine xa.cell ?_; (first | (focus (simp [go_sem]; done)) | (focus (simp [go_sem, *]; done)))))); (try (refine (fun (k1 : wa.cell? ⟨w.heap.size + 1, 1, none⟩ = some (.int .i64 y)) => ?_) ?_; rotate_left; (refine xa.cell ?_; (first | (focus (simp [go_sem]; done)) | (focus (simp [go_sem, *]; done)))))); (try (refine (fun (k2 : wa.cell? ⟨w.heap.size + 1, 2, none⟩ = some (.int .i64 z)) => ?_) ?_; rotate_left; (refine xa.cell ?_; (first | (focus (simp [go_sem]; done)) | (focus (simp [go_sem, *]; done)))))))
      | (refine step_append_dep rfl _ _ rfl (w.heap.size + 1) _ _ _ rfl (hm5') x y z _ rfl (k0) (k1) (k2) ix_ iy iz (by omega) (by have := Xa.size; (try simp only [World.size_alloc] at *); omega) ?_; intro v7 w7 hm7 hg7; have X7 : Ext (w.alloc (.cells #[.int .i64 x, .int .i64 y, .int .i64 z] 31)) w7 := (hm5').fresh (Xa) (by rw [World.size_alloc]; exact Nat.le_refl _) hg7 rfl)
      | (refine step_append_dep rfl _ _ rfl (w.heap.size + 1) _ _ _ rfl (hm5') x y z _ rfl (l0) (l1) (l2) ix_ iy iz (by omega) (by have := Xa.size; (try simp only [World.size_alloc] at *); omega) ?_; intro v7 w7 hm7 hg7; have X7 : Ext (w.alloc (.cells #[.int .i64 x, .int .i64 y, .int .i64 z] 31)) w7 := (hm5').fresh (Xa) (by rw [World.size_alloc]; exact Nat.le_refl _) hg7 rfl)
      | (refine step_append_dep rfl _ _ rfl (w.heap.size + 1) _ _ _ rfl (hm5'.alloc _) x y z _ rfl ((by simp [go_sem])) ((by simp [go_sem])) ((by simp [go_sem])) ix_ iy iz (by omega) (by have := Xa.size; (try simp only [World.size_alloc] at *); omega) ?_; intro v7 w7 hm7 hg7; have X7 : Ext (w.alloc (.cells #[.int .i64 x, .int .i64 y, .int .i64 z] 31)) w7 := (hm5'.alloc _).fresh (Xa.alloc (.cells #[.int .i64 x, .int .i64 y, .int .i64 z] 31)) (by rw [World.size_alloc]; exact Nat.le_refl _) hg7 rfl))
    all_goals
      obtain ⟨A6, c6, rfl, i6, j6⟩ := hm7.form
      go_wp2_with fail
      go_meet
      exact ⟨A6, c6, rfl, i6, j6, hm7, X7⟩
  case rest =>
  obtain ⟨A6, c6, rfl, i6, j6, hm, X⟩ := hcut
  have XW : Ext w wc := Ext.trans ((Ext.refl w).alloc _) X
  rw [← HZZ.out] at hm
  have HD2 := Lib.hid (fun W (Z : Ext wc W) => impl_DepositsOk A6 (n + 1) c6 (fun k j => ix (addZ n f x y z) (k * 3 + j)) i6 j6 W (hm.recs.ext Z))
  clear q0 q1 q2 X HZZ
  cases h1 : depB n f
  · rw [h1] at HDO HAB
    have HB := Lib.hid (show ab = false by rw [HAB.out]; rfl)
    have HN := Lib.hid (show an = n by rw [HAN.out, HB.out]; rfl)
    have HL := Lib.hid (show al = flat 3 n f by rw [HAL.out, HB.out]; rfl)
    clear h1
    go_wp2_with fail
    refine (HDO.out _ XW).mono ?_
    rintro e w5 ⟨rfl, x5⟩
    have X5 := XW.trans x5
    go_wp2_with fail
    refine (HCP.out _ X5).mono ?_
    rintro e w8 ⟨A8, c8, rfl, i8, j8, hm8, x8⟩
    have X8 := X5.trans x8
    have hs8 := X5.size
    go_wp2
    go_ret2
    rw [HB.out, HN.out, HL.out]
    exact ⟨A8, c8, rfl, i8, j8, hm8.more hs8, X8⟩
  · rw [h1] at HDO HAB
    clear h1
    go_wp2_with fail
    refine (HDO.out _ XW).mono ?_
    rintro e w5 ⟨rfl, x5⟩
    have X5 := XW.trans x5
    cases h2 : depB (n + 1) (fun k j => ix (addZ n f x y z) (k * 3 + j))
    · rw [h2] at HD2 HAB
      have HB := Lib.hid (show ab = false by rw [HAB.out]; rfl)
      have HN := Lib.hid (show an = n by rw [HAN.out, HB.out]; rfl)
      have HL := Lib.hid (show al = flat 3 n f by rw [HAL.out, HB.out]; rfl)
      clear h2
      go_wp2_with fail
      refine (HD2.out _ x5).mono ?_
      rintro e w6 ⟨rfl, x6⟩
      have X6 := X5.trans x6
      go_wp2_with fail
      refine (HCP.out _ X6).mono ?_
      rintro e w8 ⟨A8, c8, rfl, i8, j8, hm8, x8⟩
      have X8 := X6.trans x8
      have hs8 := X6.size
      go_wp2
      go_ret2
      rw [HB.out, HN.out, HL.out]
      exact ⟨A8, c8, rfl, i8, j8, hm8.more hs8, X8⟩
    · rw [h2] at HD2 HAB
      have HB := Lib.hid (show ab = true by rw [HAB.out]; rfl)
      have HN := Lib.hid (show an = n + 1 by rw [HAN.out, HB.out]; rfl)
      have HL := Lib.hid (show al = addZ n f x y z by rw [HAL.out, HB.out]; rfl)
      clear h2
      go_wp2_with fail
      refine (HD2.out _ x5).mono ?_
      rintro e w6 ⟨rfl, x6⟩
      have X6 := X5.trans x6
      replace hm := (hm.ext x5).ext x6
      go_wp2
      go_ret2
      rw [HB.out, HN.out, HL.out]
      exact ⟨A6, c6, rfl, i6, j6, hm.more (by omega), X6⟩

end Go.Proofs.Ythnngekibkcgdaa
