/-
  The order of return, on the program's side. No conditions.
-/
import Derived.Deep.DeepCutAuto
import Derived.Deep.CutRange
import Derived.Deep.DrawnRows
import Derived.RowKit3
import Derived.Test.YthnngekibkcgdaaUsI
import Derived.Test.YthnngekibkcgdaaOutK
namespace Go.Proofs.Ythnngekibkcgdaa
open Go.RowKit
set_option linter.unusedVariables false

attribute [local go_sem ↓] Go.wp_at_zero Go.wp_at_succ
attribute [local go_sem, local simp] Go.World.cell?_alloc_some Go.World.frozen?_alloc_past
set_option maxRecDepth 100000 in
set_option maxHeartbeats 4000000 in
theorem impl_ReturnOrder (A : Option Addr) (n c : Nat) (f : Nat → Nat → Int) (hnc : n ≤ c) (hcm : c ≤ 9223372036854775807) (hA : A = none → n = 0 ∧ c = 0) (hn : n ≤ 1048576) (w : World) (hr : Recs w 3 A n f) :
    Calls Try.prog 7 #[.slice A n c] w (PostI w 3 (roL n f).length (roL n f)) := by
  have HL := Lib.hid (show roL n f = roP n f (usL n f) (usL n f).length from rfl)
  have hcs := usL_le n f
  have HBK := Lib.hid (bkL_len n f)
  go_enter Try.func7, Try.ntmps7
  go_wp2_with fail
  refine (impl_CratesUsed A n c f hnc hcm hA hn _ (hr.ext (Ext.refl w))).mono ?_
  rintro e w1 ⟨Au, cu, rfl, iu, ju, mu, x1⟩
  have X1 : Ext w w1 := x1
  have hr1 := hr.ext X1
  have hs1 := X1.size
  have mur := mu.recs
  have HBD := Lib.hid (fun k => mu.ix_bd k)
  have hO : Out w.heap.size w1.heap.size w1 _ [] := (Out.nil_ _ _ _)
  clear mu x1 hr
  generalize usL n f = cs at *
  have HRL := Lib.hid (fun k (hk : k ≤ cs.length) => (show (roP n f cs k).length ≤ 41943040 from Nat.le_trans (roP_len n f cs k) (Nat.mul_le_mul (by omega : k ≤ 40) hn)))
  go_wp2
  go_loopw [3, 10] (fun s i wr => ∃ (j : Nat) (A6 : Option Addr) (c6 : Nat), j ≤ cs.length ∧ i = .int .i64 j ∧ s = .slice A6 (roP n f cs j).length c6 ∧ (roP n f cs j).length ≤ c6 ∧ c6 ≤ 9223372036854775807 ∧ Out w.heap.size w1.heap.size wr (.slice A6 (roP n f cs j).length c6) (roP n f cs j) ∧ Ext w1 wr) (fun _ i _ => cs.length - (intOf i).toNat)
  case atStart => exact ⟨0, _, 0, Nat.zero_le _, rfl, rfl, Nat.le_refl _, by omega, hO, Ext.refl w1⟩
  case round =>
    clear hO
    obtain ⟨j, A6, c6, hj, rfl, rfl, i6, j6, hm, X⟩ := hrel
    by_cases hlt : j < cs.length
    · have HRJ := Lib.hid (HRL.out j hj)
      have HR1 := Lib.hid (show roP n f cs (j + 1) = roP n f cs j ++ bkL n f (ix cs j) n from rfl)
      have HYES := Lib.hid (fun k (e : f (n - 1 - k) 1 = ix cs j) => (show bkL n f (ix cs j) (k + 1) = bkL n f (ix cs j) k ++ [f (n - 1 - k) 0] by rw [bkL, if_pos e]))
      have HNO := Lib.hid (fun k (e : ¬ f (n - 1 - k) 1 = ix cs j) => (show bkL n f (ix cs j) (k + 1) = bkL n f (ix cs j) k by rw [bkL, if_neg e]))
      have HBJ := Lib.hid (HBD.out j)
      obtain ⟨bu, ou, rfl, hbu, hu0⟩ := (mur.ext X).at1 hlt
      go_wp2
      go_loopw [3, 6] (fun s i wr2 => ∃ (k : Nat) (A7 : Option Addr) (c7 : Nat), k ≤ n ∧ i = .int .i64 ((n : Int) - 1 - k) ∧ s = .slice A7 (roP n f cs j ++ bkL n f (ix cs j) k).length c7 ∧ (roP n f cs j ++ bkL n f (ix cs j) k).length ≤ c7 ∧ c7 ≤ 9223372036854775807 ∧ Out w.heap.size w1.heap.size wr2 (.slice A7 (roP n f cs j ++ bkL n f (ix cs j) k).length c7) (roP n f cs j ++ bkL n f (ix cs j) k) ∧ Ext w1 wr2) (fun _ i _ => (intOf i + 1).toNat)
      case atStart => exact ⟨0, A6, c6, Nat.zero_le _, by simp, by simp [bkL], by simpa [bkL] using i6, j6, by simpa [bkL] using hm, X⟩
      case round =>
        clear hm X hu0
        obtain ⟨k, A7, c7, hk, rfl, rfl, i7, j7, hm, X⟩ := hrel
        have HYE := Lib.hid (fun (e : f (n - 1 - k) 1 = ix cs j) => (show roP n f cs j ++ bkL n f (ix cs j) (k + 1) = (roP n f cs j ++ bkL n f (ix cs j) k) ++ [f (n - 1 - k) 0] by rw [HYES.out k e, List.append_assoc]))
        have HNE := Lib.hid (fun (e : ¬ f (n - 1 - k) 1 = ix cs j) => (show roP n f cs j ++ bkL n f (ix cs j) (k + 1) = roP n f cs j ++ bkL n f (ix cs j) k by rw [HNO.out k e]))
        have HEND := Lib.hid (fun (e : k = n) => (show roP n f cs (j + 1) = roP n f cs j ++ bkL n f (ix cs j) k by rw [e]; rfl))
        have hll : (roP n f cs j ++ bkL n f (ix cs j) k).length ≤ 1000000000000 := by
          have := HRJ.out
          have := HBK.out (ix cs j) k
          rw [List.length_append]; omega
        clear HYES HNO HR1
        generalize roP n f cs j ++ bkL n f (ix cs j) k = l7 at *
        by_cases hkn : k < n
        · have hge : (0 : Int) ≤ (n : Int) - 1 - k := by omega
          have hge2 : ((n : Int) - 1 - k).toNat = n - 1 - k := by omega
          have hlt2 : (n : Int) - 1 - k < n := by omega
          have hki : n - 1 - k < n := by omega
          obtain ⟨bq, oq, hq, hbq, hq0⟩ := (mur.ext X).at1 hlt
          injection hq with hq; injection hq with hq1 hq2; subst hq1 hq2
          obtain ⟨b, o, rfl, hb, h0, h1, h2⟩ := (hr1.ext X).at3 hki
          by_cases e : f (n - 1 - k) 1 = ix cs j
          · have HY := Lib.hid (HYE.out e)
            have hbe : (f (n - 1 - k) 1 == ix cs j) = true := by simpa using e
            have hk1 := hr1.2 (n - 1 - k) 0
            rw [e] at h1
            clear e HYE HNE HEND
            go_wp2_with (at_builtin; refine append_out _ rfl _ _ rfl w.heap.size w1 _ _ rfl (hm.ext (.alloc (.refl _) _)) (X.alloc _) hs1 (f (n - 1 - k) 0) _ rfl (cell_new1 (by simp)) hk1 hll ?_; intro v2 w2 hm2 X2)
            rw [← HY.out] at hm2
            obtain ⟨A2, c2, rfl, i2, j2⟩ := hm2.form
            go_wp2
            go_roundw
            case rel => exact ⟨k + 1, A2, c2, by omega, by go_num, rfl, i2, j2, hm2, X2⟩
            case measure => simp [intOf]; omega
          · have HY := Lib.hid (HNE.out e)
            have hbe : (f (n - 1 - k) 1 == ix cs j) = false := by simpa using e
            clear HYE HNE HEND
            go_wp2
            go_roundw
            case rel => exact ⟨k + 1, A7, c7, by omega, by go_num, by rw [HY.out], by rw [HY.out]; exact i7, j7, by rw [HY.out]; exact hm, X⟩
            case measure => simp [intOf]; omega
        · have HEN := Lib.hid (HEND.out (by omega))
          obtain rfl : k = n := by omega
          rw [← HEN.out] at hm i7
          rw [← HEN.out]
          clear HYE HNE HEND
          go_wp2
          go_roundw
          case rel => exact ⟨j + 1, A7, c7, by omega, by go_num, rfl, i7, j7, hm, X⟩
          case measure => simp [intOf]; omega
    · obtain rfl : j = cs.length := by omega
      rw [← HL.out] at hm i6
      go_wp2
      go_ret
      rw [HL.out] at hm i6 ⊢
      exact ⟨A6, c6, rfl, i6, j6, hm.mine, X1.trans X⟩

end Go.Proofs.Ythnngekibkcgdaa
