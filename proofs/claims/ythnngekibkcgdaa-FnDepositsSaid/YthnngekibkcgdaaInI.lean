/-
  What is in a crate, on the program's side. No conditions.
-/
import Derived.Deep.DeepCutAuto
import Derived.Deep.CutRange
import Derived.Deep.DrawnRows
import Derived.RowKit3
import Derived.Test.YthnngekibkcgdaaInP
import Derived.Test.YthnngekibkcgdaaInts
namespace Go.Proofs.Ythnngekibkcgdaa
open Go.RowKit
set_option linter.unusedVariables false

attribute [local go_sem ↓] Go.wp_at_zero Go.wp_at_succ
attribute [local go_sem, local simp] Go.World.cell?_alloc_some Go.World.frozen?_alloc_past
set_option maxRecDepth 100000 in
set_option maxHeartbeats 4000000 in
theorem impl_InCrate (A : Option Addr) (n c : Nat) (f : Nat → Nat → Int) (hnc : n ≤ c) (hcm : c ≤ 9223372036854775807) (hA : A = none → n = 0 ∧ c = 0) (hn : n ≤ 1048576) (p : Int) (w : World) (hr : Recs w 3 A n f) :
    Calls Try.prog 9 #[.slice A n c, .int .i64 p] w (PostI w 3 (inL n f p).length (inL n f p)) := by
  have HDO := Lib.hid (fun W (Z : Ext w W) => impl_DepositsOk A n c f hnc hcm W (hr.ext Z))
  cases hd : depB n f
  · have HL := Lib.hid (show inL n f p = [] by unfold inL; rw [hd]; rfl)
    rw [hd] at HDO
    clear hd
    go_enter Try.func9, Try.ntmps9
    go_wp2_with fail
    refine (HDO.out _ (Ext.refl w)).mono ?_
    rintro e w1 ⟨rfl, x1⟩
    go_wp2
    go_ret
    rw [HL.out]
    exact ⟨none, 0, rfl, Nat.le_refl _, by omega, Mine.nil_ _ _ _, x1⟩
  · have HL := Lib.hid (show inL n f p = srtL (crL f p n) by unfold inL; rw [hd, in_spec hd]; rfl)
    rw [hd] at HDO
    clear hd
    have HYES := Lib.hid (fun j (e : f j 1 = p) => (show crL f p (j + 1) = crL f p j ++ [f j 0] by rw [crL, if_pos e]))
    have HNO := Lib.hid (fun j (e : ¬ f j 1 = p) => (show crL f p (j + 1) = crL f p j by rw [crL, if_neg e]))
    go_enter Try.func9, Try.ntmps9
    go_wp2_with fail
    refine (HDO.out _ (Ext.refl w)).mono ?_
    rintro e w1 ⟨rfl, x1⟩
    go_wp2
    go_loopw [5, 13] (fun s i wr => ∃ (j : Nat) (A6 : Option Addr) (c6 : Nat), j ≤ n ∧ i = .int .i64 j ∧ s = .slice A6 (crL f p j).length c6 ∧ (crL f p j).length ≤ c6 ∧ c6 ≤ 9223372036854775807 ∧ (crL f p j).length ≤ j ∧ Mine w.heap.size wr 3 (.slice A6 (crL f p j).length c6) (crL f p j).length (crL f p j) ∧ Ext w wr) (fun _ i _ => n - (intOf i).toNat)
    case atStart => exact ⟨0, none, 0, Nat.zero_le _, rfl, rfl, Nat.le_refl _, by omega, Nat.le_refl _, Mine.nil_ _ _ _, x1⟩
    case round =>
      obtain ⟨j, A6, c6, hj, rfl, rfl, i6, j6, hkj, hm, X⟩ := hrel
      by_cases hlt : j < n
      · obtain ⟨b, o, rfl, hb, h0, h1, h2⟩ := (hr.ext X).at3 hlt
        by_cases e : f j 1 = p
        · have HY := Lib.hid (HYES.out j e)
          have hbe : (f j 1 == p) = true := by simpa using e
          have hk1 := hr.2 j 0
          have hX := X.alloc (.cells #[.int .i64 (f j 0), .int .i64 (f j 1), .int .i64 (f j 2)] 31)
          have hmX := hm.alloc (.cells #[.int .i64 (f j 0), .int .i64 (f j 1), .int .i64 (f j 2)] 31)
          subst e
          go_wp2_with (at_builtin; refine append_int _ rfl _ _ rfl w.heap.size _ _ _ rfl (hmX.alloc _) (f j 0) _ rfl (cell_new1 (by simp)) hk1 (by omega) (by rw [World.size_alloc]; have := hX.size; omega) ?_; intro v2 w2 hm2 hg2; have he2 := (hmX.alloc (.cells #[.int .i64 (f j 0)] 3)).fresh (hX.alloc (.cells #[.int .i64 (f j 0)] 3)) (Nat.le_refl _) hg2 rfl)
          obtain ⟨A2, c2, rfl, i2, j2⟩ := hm2.form
          go_wp2
          go_roundw
          case rel => exact ⟨j + 1, A2, c2, by omega, by go_num, by rw [HY.out]; simp, by rw [HY.out]; simp; omega, j2, by rw [HY.out]; simp; omega, by rw [HY.out]; simpa using hm2, he2⟩
          case measure => simp [intOf]; omega
        · have HY := Lib.hid (HNO.out j e)
          have hbe : (f j 1 == p) = false := by simpa using e
          clear e
          go_wp2
          go_roundw
          case rel => exact ⟨j + 1, A6, c6, by omega, by go_num, by rw [HY.out], by rw [HY.out]; exact i6, j6, by rw [HY.out]; omega, by rw [HY.out]; exact hm.alloc _, X.alloc _⟩
          case measure => simp [intOf]; omega
      · obtain rfl : j = n := by omega
        go_wp2_with fail
        refine (slices_Sort_own w.heap.size A6 _ c6 _ _ (by omega) hm).mono ?_
        rintro e w5 ⟨rfl, m5, g5⟩
        have X5 := hm.ext_of X (Nat.le_refl _) g5
        have hl := srtL_len (crL f p j)
        clear hm g5
        go_wp2
        go_ret
        rw [HL.out, hl]
        exact ⟨A6, c6, rfl, i6, j6, m5, X5⟩

end Go.Proofs.Ythnngekibkcgdaa
