/-
  The laws' test for equality of two Deposits, of two slices of them, and the size of such a slice. No conditions.
-/
import Derived.Test.YtgfnkmalecfhbaaInts
import Derived.Test.YtgfnkmalecfhbaaKitE
namespace Go.Proofs.Ytgfnkmalecfhbaa
open Go.RowKit
set_option linter.unusedVariables false

set_option maxHeartbeats 1000000 in
theorem eqDeposit_yes (x y z : Int) (w : World) :
    Calls Try.prog 42 #[.agg #[.int .i64 x, .int .i64 y, .int .i64 z], .agg #[.int .i64 x, .int .i64 y, .int .i64 z]] w fun e w' => e = .returned (.bool true) ∧ Ext w w' := by
  go_enter Try.func42, Try.ntmps42
  go_wp2
  go_ret
  exact ⟨rfl, by repeat (first | exact Ext.refl _ | apply Ext.wgr | apply Ext.drew | apply Ext.drewN | apply Ext.alloc)⟩
set_option maxHeartbeats 2000000 in
theorem eqDepositS_yes (A B : Option Addr) (n c d : Nat) (f g : Nat → Nat → Int) (hn : n ≤ 9223372036854775807) (w : World) (hr : Recs w 3 A n f) (hs : Recs w 3 B n g) (he : ∀ i, i < n → ∀ j, j < 3 → f i j = g i j) :
    Calls Try.prog 15 #[.slice A n c, .slice B n d] w fun e w' => e = .returned (.bool true) ∧ Ext w w' := by
  have HE := Lib.hid he
  clear he
  go_enter Try.func15, Try.ntmps15
  go_wp2
  go_loopw [5] (fun i wr => ∃ j : Nat, j ≤ n ∧ i = .int .i64 j ∧ Ext w wr) (fun i _ => n - (intOf i).toNat)
  case atStart => exact ⟨0, Nat.zero_le _, rfl, Ext.refl w⟩
  case round =>
    obtain ⟨j, hj, rfl, ⟨gx, rfl⟩⟩ := hrel
    by_cases hlt : j < n
    · obtain ⟨b, o, rfl, hb, h0, h1, h2⟩ := hr.at3 hlt
      obtain ⟨b2, o2, rfl, hb2, k0, k1, k2⟩ := hs.at3 hlt
      have hq0 := HE.out j hlt 0 (by omega)
      rw [hq0] at h0
      clear hq0
      have hq1 := HE.out j hlt 1 (by omega)
      rw [hq1] at h1
      clear hq1
      have hq2 := HE.out j hlt 2 (by omega)
      rw [hq2] at h2
      clear hq2
      go_wp2
      first | refine wp_region_gr2 (by kernel_rfl) (by kernel_rfl) ?_ | refine wp_region_gr (by kernel_rfl) (by kernel_rfl) ?_
      repeat (go_big_quiet_step ((go_at_call 42; exact gr_of (eqDeposit_yes _ _ _ _))))
      refine wpQuiet_nil ?_
      intro _ hw'
      obtain ⟨gq, hw''⟩ := hw'
      subst hw''
      go_wp2
      go_roundw
      case rel => exact ⟨j + 1, by omega, by go_num, Ext.gr w _⟩
      case measure => simp [intOf]; omega
    · obtain rfl : j = n := by omega
      go_wp2
      go_ret
      exact ⟨rfl, ⟨gx, rfl⟩⟩
set_option maxHeartbeats 1000000 in
theorem szDepositS_any (A : Option Addr) (n c : Nat) (k : Int) (hk : 0 ≤ k ∧ k ≤ 1048576) (hn : n ≤ 9223372036854775807) (w : World) :
    Calls Try.prog 10 #[.slice A n c, .int .i64 k] w fun e w' => e = .returned (.int .i64 (if k - n < 0 then -1 else k - n)) ∧ Ext w w' := by
  by_cases h : k - n < 0
  · go_enter Try.func10, Try.ntmps10
    go_wp2
    go_ret
    exact ⟨congrArg (fun z => Ending.returned (.int .i64 z)) (by first | rfl | rw [if_pos (by omega)]), Ext.refl w⟩
  · go_enter Try.func10, Try.ntmps10
    go_wp2
    go_ret
    exact ⟨congrArg (fun z => Ending.returned (.int .i64 z)) (by first | rfl | rw [if_neg (by omega)]), Ext.refl w⟩

end Go.Proofs.Ytgfnkmalecfhbaa
