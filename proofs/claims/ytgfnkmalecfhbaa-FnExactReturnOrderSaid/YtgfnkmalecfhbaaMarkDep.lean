/-
  The laws' marks over a row of deposits. No conditions.
-/
import Derived.Test.YtgfnkmalecfhbaaDepC
namespace Go.Proofs.Ytgfnkmalecfhbaa
open Go.RowKit
set_option linter.unusedVariables false

set_option maxHeartbeats 4000000 in
theorem markDepositS_any (base : Nat) (A : Option Addr) (n c : Nat) (zs : List Int) (k0 : Int) (h0 : 0 ≤ k0) (h1 : k0 + n * 3 ≤ 9223372036854775807) (w : World) (hm0 : MineS base w 30 3 (.slice A n c) n zs) :
    Calls Try.prog 16 #[.slice A n c, .int .i64 k0] w fun e w' => e = .returned (.int .i64 (k0 + n * 3)) ∧ MineS base w' 30 3 (.slice A n c) n (tab (n * 3) fun k => k0 + k) ∧ w.grownBy w' (Value.slice A n c).ownBlock := by
  go_enter Try.func16, Try.ntmps16
  go_wp2
  go_loopw [1, 5] (fun k i wr => ∃ j : Nat, j ≤ n ∧ i = .int .i64 j ∧ k = .int .i64 (k0 + (j : Int) * 3) ∧ MineS base wr 30 3 (.slice A n c) n (tab (n * 3) (marks k0 zs (j * 3))) ∧ w.grownBy wr (Value.slice A n c).ownBlock) (fun _ i _ => n - (intOf i).toNat)
  case atStart => exact ⟨0, Nat.zero_le _, rfl, by simp, by rw [Nat.zero_mul, marks_zero hm0.1]; exact hm0, World.grownBy.refl w _⟩
  case round =>
    clear hm0
    obtain ⟨j, hj, rfl, rfl, hm, hg⟩ := hrel
    by_cases hlt : j < n
    · obtain ⟨g, rfl⟩ := hm.some_ (by omega)
      have e0 := marks_set (n := n * 3) (k := j * 3) (k0 := k0) (zs := zs) (by omega)
      have e1 := marks_set (n := n * 3) (k := j * 3 + 1) (k0 := k0) (zs := zs) (by omega)
      have e2 := marks_set (n := n * 3) (k := j * 3 + 2) (k0 := k0) (zs := zs) (by omega)
      rw [show k0 + ((j * 3 : Nat) : Int) = k0 + (j : Int) * 3 by omega] at e0
      rw [show k0 + ((j * 3 + 1 : Nat) : Int) = k0 + (j : Int) * 3 + 1 by omega] at e1
      rw [show k0 + ((j * 3 + 2 : Nat) : Int) = k0 + (j : Int) * 3 + 1 + 1 by omega] at e2
      obtain ⟨hc, hf, _, _⟩ := hm.at_ hlt (j := 0) (by omega)
      have hst := hm.stored (i := j * 3) (z := k0 + (j : Int) * 3) (by unfold I64; omega)
      rw [e0] at hst
      obtain ⟨hc2, hf2, _, _⟩ := hst.at_ hlt (j := 1) (by omega)
      have hst2 := hst.stored (i := j * 3 + 1) (z := k0 + (j : Int) * 3 + 1) (by unfold I64; omega)
      rw [e1] at hst2
      obtain ⟨hc3, hf3, _, _⟩ := hst2.at_ hlt (j := 2) (by omega)
      have hst3 := hst2.stored (i := j * 3 + 2) (z := k0 + (j : Int) * 3 + 1 + 1) (by unfold I64; omega)
      rw [e2, show j * 3 + 2 + 1 = (j + 1) * 3 by omega] at hst3
      have hg3 := grownBy_setCell (grownBy_setCell (grownBy_setCell hg (j * 3) (.int .i64 (k0 + (j : Int) * 3))) (j * 3 + 1) (.int .i64 (k0 + (j : Int) * 3 + 1))) (j * 3 + 2) (.int .i64 (k0 + (j : Int) * 3 + 1 + 1))
      rw [Nat.add_zero] at hc hf
      have HS3 := Lib.hid hst3
      have HG3 := Lib.hid hg3
      clear hst hst2 hst3 hg3 e0 e1 e2
      go_wp2
      go_roundw
      case rel => exact ⟨j + 1, by omega, by go_num, by first | (congr 1; omega) | (congr 2; omega), HS3.out, HG3.out⟩
      case measure => simp [intOf]; omega
    · obtain rfl : j = n := by omega
      rw [marks_full] at hm
      go_wp2
      go_ret
      exact ⟨rfl, hm, hg⟩
set_option maxHeartbeats 4000000 in
theorem heldDepositS_yes (A : Option Addr) (n c : Nat) (f : Nat → Nat → Int) (k0 : Int) (h0 : 0 ≤ k0) (h1 : k0 + n * 3 ≤ 9223372036854775807) (w : World) (hr : Recs w 3 A n f) (he : ∀ j i : Nat, j < n → i < 3 → f j i = k0 + (j : Int) * 3 + i) :
    Calls Try.prog 17 #[.slice A n c, .int .i64 k0] w fun e w' => e = .returned (.int .i64 (k0 + n * 3)) ∧ Ext w w' := by
  have HE := Lib.hid he
  clear he
  go_enter Try.func17, Try.ntmps17
  go_wp2
  go_loop [1, 5] (fun k i => ∃ j : Nat, j ≤ n ∧ i = .int .i64 j ∧ k = .int .i64 (k0 + (j : Int) * 3)) (fun _ i => n - (intOf i).toNat)
  case atStart => exact ⟨0, Nat.zero_le _, rfl, by simp⟩
  case round =>
    obtain ⟨j, hj, rfl, rfl⟩ := hrel
    by_cases hlt : j < n
    · obtain ⟨b, o, rfl, hb, c0, c1, c2⟩ := hr.at3 hlt
      rw [HE.out j 0 hlt (by omega)] at c0
      rw [HE.out j 1 hlt (by omega)] at c1
      rw [HE.out j 2 hlt (by omega)] at c2
      rw [show k0 + (j : Int) * 3 + ((0 : Nat) : Int) = k0 + (j : Int) * 3 by omega] at c0
      rw [show k0 + (j : Int) * 3 + ((1 : Nat) : Int) = k0 + (j : Int) * 3 + 1 by omega] at c1
      rw [show k0 + (j : Int) * 3 + ((2 : Nat) : Int) = k0 + (j : Int) * 3 + 1 + 1 by omega] at c2
      go_wp2
      go_round
      case rel => exact ⟨j + 1, by omega, by go_num, by first | (congr 1; omega) | (congr 2; omega)⟩
      case measure => simp [intOf]; omega
    · obtain rfl : j = n := by omega
      go_wp2
      go_ret
      exact ⟨rfl, Ext.refl w⟩

end Go.Proofs.Ytgfnkmalecfhbaa
