/-
  The taking back of a deposit, on the program's side. No conditions.
-/
import Derived.Deep.DeepCutAuto
import Derived.Deep.CutRange
import Derived.Deep.DrawnRows
import Derived.RowKit3
import Derived.Test.YthnngekibkcgdaaTbP
import Derived.Test.YthnngekibkcgdaaDelW
namespace Go.Proofs.Ythnngekibkcgdaa
open Go.RowKit
set_option linter.unusedVariables false

attribute [local go_sem ↓] Go.wp_at_zero Go.wp_at_succ
attribute [local go_sem, local simp] Go.World.cell?_alloc_some Go.World.frozen?_alloc_past

set_option maxRecDepth 100000 in
set_option maxHeartbeats 4000000 in
theorem impl_TakeBack (A : Option Addr) (n c : Nat) (f : Nat → Nat → Int) (hnc : n ≤ c) (hcm : c ≤ 9223372036854775807) (hA : A = none → n = 0 ∧ c = 0) (hn : n ≤ 1048576) (p : Int) (w : World) (hr : Recs w 3 A n f) :
    Calls Try.prog 12 #[.slice A n c, .int .i64 p] w (PostSB w (tbN n f p) (tbL n f p) (tbB n f p)) := by
  have HDO := Lib.hid (fun W (Z : Ext w W) => impl_DepositsOk A n c f hnc hcm W (hr.ext Z))
  have HXX := Lib.hid (show tbX n f p = fdx (fun i => decide (f i 0 = p)) n from rfl)
  rcases fdx_cases (fun i => decide (f i 0 = p)) n with ⟨h1, h2⟩ | ⟨k, h1, h2, h3, h4⟩
  · have HB := Lib.hid (show tbB n f p = false by unfold tbB; rw [show tbX n f p = -1 from h2]; rfl)
    have HN := Lib.hid (show tbN n f p = n by unfold tbN; rw [HB.out]; rfl)
    have HL := Lib.hid (show tbL n f p = flat 3 n f by unfold tbL; rw [HB.out]; rfl)
    have H2 := Lib.hid h2
    clear h1 h2
    go_enter Try.func12, Try.ntmps12
    go_wp2_with fail
    refine (copyDeposits_any A n c f hnc hcm hA (by omega) _ hr).mono ?_
    rintro e w1 ⟨A1, c1, rfl, i1, j1, m1, x1⟩
    go_wp2_with fail
    refine (depositAt_any A n c f p (by omega) _ (hr.ext x1)).mono ?_
    rintro e w2 ⟨rfl, x2⟩
    replace m1 := m1.ext x2
    have X2 := x1.trans x2
    rw [H2.out]
    go_wp2
    go_ret2
    rw [HB.out, HN.out, HL.out]
    exact ⟨A1, c1, rfl, i1, j1, m1, X2⟩
  · have H4 := Lib.hid h4
    have hkn : ((k : Nat) : Int) < (n : Int) := by omega
    cases hd : depB n f
    · have HB := Lib.hid (show tbB n f p = false by unfold tbB; rw [hd]; simp)
      have HN := Lib.hid (show tbN n f p = n by unfold tbN; rw [HB.out]; rfl)
      have HL := Lib.hid (show tbL n f p = flat 3 n f by unfold tbL; rw [HB.out]; rfl)
      rw [hd] at HDO
      clear h2 h3 h4 hd
      go_enter Try.func12, Try.ntmps12
      go_wp2_with fail
      refine (copyDeposits_any A n c f hnc hcm hA (by omega) _ hr).mono ?_
      rintro e w1 ⟨A1, c1, rfl, i1, j1, m1, x1⟩
      go_wp2_with fail
      refine (depositAt_any A n c f p (by omega) _ (hr.ext x1)).mono ?_
      rintro e w2 ⟨rfl, x2⟩
      replace m1 := m1.ext x2
      have X2 := x1.trans x2
      rw [H4.out]
      go_wp2_with fail
      refine (HDO.out _ X2).mono ?_
      rintro e w3 ⟨rfl, x3⟩
      replace m1 := m1.ext x3
      have X3 := X2.trans x3
      go_wp2
      go_ret2
      rw [HB.out, HN.out, HL.out]
      exact ⟨A1, c1, rfl, i1, j1, m1, X3⟩
    · have HB := Lib.hid (show tbB n f p = true by unfold tbB; rw [hd, show tbX n f p = k from h4]; simp)
      have HN := Lib.hid (show tbN n f p = n - 1 by unfold tbN; rw [HB.out]; rfl)
      have HL := Lib.hid (show tbL n f p = cutD k (flat 3 n f) by unfold tbL; rw [HB.out, show tbX n f p = k from h4]; rfl)
      rw [hd] at HDO
      clear h2 h3 h4 hd
      go_enter Try.func12, Try.ntmps12
      go_wp2_with fail
      refine (copyDeposits_any A n c f hnc hcm hA (by omega) _ hr).mono ?_
      rintro e w1 ⟨A1, c1, rfl, i1, j1, m1, x1⟩
      go_wp2_with fail
      refine (depositAt_any A n c f p (by omega) _ (hr.ext x1)).mono ?_
      rintro e w2 ⟨rfl, x2⟩
      replace m1 := m1.ext x2
      have X2 := x1.trans x2
      rw [H4.out]
      go_wp2_with fail
      refine (HDO.out _ X2).mono ?_
      rintro e w3 ⟨rfl, x3⟩
      replace m1 := m1.ext x3
      have X3 := X2.trans x3
      obtain ⟨g, rfl⟩ := m1.some_ (by omega)
      go_wp2_with fail
      refine (slices_Delete w.heap.size g n c1 k _ h1 i1 j1 _ m1).mono ?_
      rintro e w4 ⟨rfl, m4, g4⟩
      have X4 := m1.ext_of X3 (Nat.le_refl _) g4
      clear m1 g4
      go_wp2
      go_ret2
      rw [HB.out, HN.out, HL.out]
      exact ⟨_, c1, rfl, by omega, j1, m4, X4⟩

end Go.Proofs.Ythnngekibkcgdaa
