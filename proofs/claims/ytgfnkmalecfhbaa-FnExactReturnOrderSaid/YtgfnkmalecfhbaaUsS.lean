/-
  Which crates are used, on the reference's side. No conditions.
-/
import Derived.Deep.DeepCutAuto
import Derived.Deep.CutRange
import Derived.Deep.DrawnRows
import Derived.RowKit3
import Derived.Test.YtgfnkmalecfhbaaInsU
namespace Go.Proofs.Ytgfnkmalecfhbaa
open Go.RowKit
set_option linter.unusedVariables false

attribute [local go_sem ↓] Go.wp_at_zero Go.wp_at_succ
attribute [local go_sem, local simp] Go.World.cell?_alloc_some Go.World.frozen?_alloc_past
set_option maxRecDepth 100000 in
set_option maxHeartbeats 4000000 in
theorem spec_CratesUsed (A : Option Addr) (n c : Nat) (f : Nat → Nat → Int) (hnc : n ≤ c) (hcm : c ≤ 9223372036854775807) (hA : A = none → n = 0 ∧ c = 0) (hn : n ≤ 1048576) (w : World) (hr : Recs w 3 A n f) :
    Calls Try.prog 31 #[.slice A n c] w (PostI w 3 (usL n f).length (usL n f)) := by
  have HDO := Lib.hid (fun W (Z : Ext w W) => spec_DepositsOk A n c f hnc hcm W (hr.ext Z))
  cases hd : depB n f
  · have HL := Lib.hid (show usL n f = [] by unfold usL; rw [hd]; rfl)
    rw [hd] at HDO
    clear hd
    go_enter Try.func31, Try.ntmps31
    go_wp2
    go_loopw [3, 4] (fun s i wr => s = .slice (some ⟨w.heap.size, 0, none⟩) 0 0 ∧ i = .int .i64 0 ∧ wr = w.alloc (.cells #[] 3)) (fun _ i _ => 0)
    case atStart => exact ⟨rfl, rfl, rfl⟩
    case round =>
      obtain ⟨rfl, rfl, rfl⟩ := hrel
      have X := (Ext.refl w).alloc (.cells #[] 3)
      have hm := Mine.lit0 w 3
      by_cases hlt : 0 < n
      · go_wp2_with fail
        refine (HDO.out _ X).mono ?_
        rintro e w1 ⟨rfl, x1⟩
        replace hm := hm.ext x1
        have X1 := X.trans x1
        go_wp2
        go_ret
        rw [HL.out]
        exact ⟨_, 0, rfl, Nat.le_refl _, by omega, hm, X1⟩
      · obtain rfl : n = 0 := by omega
        go_wp2
        go_ret
        rw [HL.out]
        exact ⟨_, 0, rfl, Nat.le_refl _, by omega, hm, X⟩
  · have HL := Lib.hid (show usL n f = usS f n by unfold usL; rw [hd]; rfl)
    have h40 : n ≤ 40 := by
      by_cases q : n ≤ 40
      · exact q
      · rw [depB_long q] at hd; exact Bool.noConfusion hd
    rw [hd] at HDO
    clear hd
    have HYES := Lib.hid (fun j => (show usS f (j + 1) = insU (usS f j) (f j 1) by rw [usS]))
    go_enter Try.func31, Try.ntmps31
    go_wp2
    go_loopw [3, 4] (fun s i wr => ∃ (j g6 : Nat) (c6 : Nat), j ≤ n ∧ i = .int .i64 j ∧ s = .slice (some ⟨g6, 0, none⟩) (usS f j).length c6 ∧ (usS f j).length ≤ c6 ∧ c6 ≤ 9223372036854775807 ∧ (usS f j).length ≤ j ∧ Mine w.heap.size wr 3 (.slice (some ⟨g6, 0, none⟩) (usS f j).length c6) (usS f j).length (usS f j) ∧ Ext w wr) (fun _ i _ => n - (intOf i).toNat)
    case atStart => exact ⟨0, _, 0, Nat.zero_le _, rfl, rfl, Nat.le_refl _, by omega, Nat.le_refl _, Mine.lit0 w 3, (Ext.refl w).alloc _⟩
    case round =>
      obtain ⟨j, g6, c6, hj, rfl, rfl, i6, j6, hkj, hm, X⟩ := hrel
      by_cases hlt : j < n
      · have HY := Lib.hid (HYES.out j)
        have hk1 := hr.2 j 1
        go_wp2_with fail
        refine (HDO.out _ X).mono ?_
        rintro e w1 ⟨rfl, x1⟩
        replace hm := hm.ext x1
        have X1 := X.trans x1
        have hs1 := X1.size
        obtain ⟨b, o, rfl, hb, h0, h1, h2⟩ := (hr.ext X1).at3 hlt
        go_wp2_with fail
        refine (spec_l32Sorted w.heap.size g6 _ c6 _ (f j 1) hk1 (by omega) _ hs1 hm).mono ?_
        rw [← HY.out]
        rintro e w2 ⟨g7, c7, rfl, i7, j7, hm7, x7⟩
        have X7 := X1.trans x7
        have hl7 := usS_len f (j + 1)
        clear hm
        go_wp2
        go_roundw
        case rel => exact ⟨j + 1, g7, c7, by omega, by go_num, rfl, i7, j7, hl7, hm7, X7⟩
        case measure => simp [intOf]; omega
      · obtain rfl : j = n := by omega
        go_wp2
        go_ret
        rw [HL.out]
        exact ⟨_, c6, rfl, i6, j6, hm, X⟩

end Go.Proofs.Ytgfnkmalecfhbaa
