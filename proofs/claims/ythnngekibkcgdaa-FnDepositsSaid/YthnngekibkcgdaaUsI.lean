/-
  Which crates are used, on the program's side. No conditions.
-/
import Derived.Deep.DeepCutAuto
import Derived.Deep.CutRange
import Derived.Deep.DrawnRows
import Derived.RowKit3
import Derived.Test.YthnngekibkcgdaaInI
namespace Go.Proofs.Ythnngekibkcgdaa
open Go.RowKit
set_option linter.unusedVariables false

attribute [local go_sem ↓] Go.wp_at_zero Go.wp_at_succ
attribute [local go_sem, local simp] Go.World.cell?_alloc_some Go.World.frozen?_alloc_past
set_option maxRecDepth 100000 in
set_option maxHeartbeats 4000000 in
theorem impl_CratesUsed (A : Option Addr) (n c : Nat) (f : Nat → Nat → Int) (hnc : n ≤ c) (hcm : c ≤ 9223372036854775807) (hA : A = none → n = 0 ∧ c = 0) (hn : n ≤ 1048576) (w : World) (hr : Recs w 3 A n f) :
    Calls Try.prog 8 #[.slice A n c] w (PostI w 3 (usL n f).length (usL n f)) := by
  have HDO := Lib.hid (fun W (Z : Ext w W) => impl_DepositsOk A n c f hnc hcm W (hr.ext Z))
  have HIN := Lib.hid (fun (p : Int) W (Z : Ext w W) => impl_InCrate A n c f hnc hcm hA hn p W (hr.ext Z))
  cases hd : depB n f
  · have HL := Lib.hid (show usL n f = [] by unfold usL; rw [hd]; rfl)
    rw [hd] at HDO
    clear hd
    go_enter Try.func8, Try.ntmps8
    go_wp2_with fail
    refine (HDO.out _ (Ext.refl w)).mono ?_
    rintro e w1 ⟨rfl, x1⟩
    go_wp2
    go_ret
    rw [HL.out]
    exact ⟨none, 0, rfl, Nat.le_refl _, by omega, Mine.nil_ _ _ _, x1⟩
  · have HL := Lib.hid (us_spec hd)
    rw [hd] at HDO
    clear hd
    have HYES := Lib.hid (fun (j : Nat) (e : 0 < (inL n f ((j : Int) + 1)).length) => (show usB n f (j + 1) = usB n f j ++ [(j : Int) + 1] by rw [usB, if_pos e]))
    have HNO := Lib.hid (fun (j : Nat) (e : ¬ 0 < (inL n f ((j : Int) + 1)).length) => (show usB n f (j + 1) = usB n f j by rw [usB, if_neg e]))
    go_enter Try.func8, Try.ntmps8
    go_wp2_with fail
    refine (HDO.out _ (Ext.refl w)).mono ?_
    rintro e w1 ⟨rfl, x1⟩
    go_wp2
    go_loopw [3, 4] (fun s i wr => ∃ (j : Nat) (A6 : Option Addr) (c6 : Nat), j ≤ 50 ∧ i = .int .i64 ((j : Int) + 1) ∧ s = .slice A6 (usB n f j).length c6 ∧ (usB n f j).length ≤ c6 ∧ c6 ≤ 9223372036854775807 ∧ (usB n f j).length ≤ j ∧ Mine w.heap.size wr 3 (.slice A6 (usB n f j).length c6) (usB n f j).length (usB n f j) ∧ Ext w wr) (fun _ i _ => 51 - (intOf i).toNat)
    case atStart => exact ⟨0, none, 0, Nat.zero_le _, rfl, rfl, Nat.le_refl _, by omega, Nat.le_refl _, Mine.nil_ _ _ _, x1⟩
    case round =>
      obtain ⟨j, A6, c6, hj, rfl, rfl, i6, j6, hkj, hm, X⟩ := hrel
      by_cases hlt : j < 50
      · have hle : (j : Int) + 1 ≤ 50 := by omega
        by_cases e : 0 < (inL n f ((j : Int) + 1)).length
        · have HY := Lib.hid (HYES.out j e)
          have hbe : (0 : Int) < ((inL n f ((j : Int) + 1)).length : Nat) := by omega
          go_wp2_with fail
          refine (HIN.out ((j : Int) + 1) _ X).mono ?_
          rintro e w2 ⟨A2, c2, rfl, i2, j2, m2, x2⟩
          replace hm := hm.ext x2
          have X2 := X.trans x2
          clear m2
          go_wp2_with (at_builtin; refine append_int _ rfl _ _ rfl w.heap.size _ _ _ rfl (hm.alloc _) ((j : Int) + 1) _ rfl (cell_new1 (by simp)) (by unfold I64; omega) (by omega) (by rw [World.size_alloc]; have := X2.size; omega) ?_; intro v2 w2 hm2 hg2; have he2 := (hm.alloc (.cells #[.int .i64 ((j : Int) + 1)] 3)).fresh (X2.alloc (.cells #[.int .i64 ((j : Int) + 1)] 3)) (Nat.le_refl _) hg2 rfl)
          obtain ⟨A3, c3, rfl, i3, j3⟩ := hm2.form
          go_wp2
          go_roundw
          case rel => exact ⟨j + 1, A3, c3, by omega, by go_num, by rw [HY.out]; simp, by rw [HY.out]; simp; omega, j3, by rw [HY.out]; simp; omega, by rw [HY.out]; simpa using hm2, he2⟩
          case measure => simp [intOf]; omega
        · have HY := Lib.hid (HNO.out j e)
          have hbe : ¬ (0 : Int) < ((inL n f ((j : Int) + 1)).length : Nat) := by omega
          go_wp2_with fail
          refine (HIN.out ((j : Int) + 1) _ X).mono ?_
          rintro e w2 ⟨A2, c2, rfl, i2, j2, m2, x2⟩
          replace hm := hm.ext x2
          have X2 := X.trans x2
          clear m2
          go_wp2
          go_roundw
          case rel => exact ⟨j + 1, A6, c6, by omega, by go_num, by rw [HY.out], by rw [HY.out]; exact i6, j6, by rw [HY.out]; omega, by rw [HY.out]; exact hm, X2⟩
          case measure => simp [intOf]; omega
      · obtain rfl : j = 50 := by omega
        go_wp2
        go_ret
        rw [← HL.out]
        exact ⟨A6, c6, rfl, i6, j6, hm, X⟩

end Go.Proofs.Ythnngekibkcgdaa
