/-
  Contracts of the heights of a window and of the widest gap. No conditions.
-/
import Derived.Test.YtgmhmlhdiklaaaaBarW
namespace Go.Proofs.Ytgmhmlhdiklaaaa
open Go.RowKit
set_option linter.unusedVariables false

set_option maxRecDepth 100000 in
set_option maxHeartbeats 8000000 in
theorem impl_heights (A : Option Addr) (n c : Nat) (P : Nat → Nat → Int) (B : Option Addr) (m d : Nat) (L : Nat → Nat → Int) (hnc : n ≤ c) (hcm : c ≤ 9223372036854775807) (hmd : m ≤ d) (hdm : d ≤ 9223372036854775807) (hn : 1 ≤ n) (w : World) (hr : Recs w 2 A n P) (hs : Recs w 2 B m L) :
    Calls Try.prog 51 #[.agg #[.slice A n c, .slice B m d]] w fun e w' => e = .returned (.tuple #[.int .i64 (loF P n), .int .i64 (hiF P n)]) ∧ Ext w w' := by
  obtain ⟨bA, oA, rfl, hbA, z0, z1⟩ := hr.at2 (k := 0) (by omega)
  rw [show oA + 0 * 2 = oA by omega] at z0 z1
  have hn0 : (0 : Int) < (n : Int) := by omega
  have hq0 : (w.alloc (.cells #[.slice (some ⟨bA, oA, none⟩) n c, .slice B m d] 27)).cell? ⟨w.heap.size, 0, none⟩ = some (.slice (some ⟨bA, oA, none⟩) n c) := by simp [go_sem]
  have Q0 := Lib.hid hq0
  clear hq0
  go_enter Try.func51, Try.ntmps51
  go_wp2
  first | refine wp_region_gr2 (by kernel_rfl) (by kernel_rfl) ?_ | refine wp_region_gr (by kernel_rfl) (by kernel_rfl) ?_
  repeat (go_big_quiet_step (fail))
  refine wpQuiet_nil ?_
  intro _ hw'
  obtain ⟨gq, hw''⟩ := hw'
  subst hw''
  go_wp2
  go_loopw [4, 5, 21] (fun lo hi i wr => ∃ k : Nat, k ≤ n ∧ lo = .int .i64 (loF P k) ∧ hi = .int .i64 (hiF P k) ∧ i = .int .i64 k ∧ Ext (w.alloc (.cells #[.slice (some ⟨bA, oA, none⟩) n c, .slice B m d] 27)) wr) (fun _ _ i _ => n - (intOf i).toNat)
  case atStart => exact ⟨0, Nat.zero_le _, rfl, rfl, rfl, (by repeat (first | exact Ext.refl _ | exact Ext.gr _ _ | apply Ext.wgr | apply Ext.drew | apply Ext.drewN | apply Ext.alloc))⟩
  case round =>
    obtain ⟨k, hk, rfl, rfl, rfl, Y⟩ := hrel
    have q00 := Y.cell Q0.out
    by_cases hlt : k < n
    · obtain ⟨c0, c1⟩ := hr.cell2 hlt
      replace c0 := (((Ext.refl w).alloc _).trans Y).cell c0
      replace c1 := (((Ext.refl w).alloc _).trans Y).cell c1
      have k1 : (0 : Int) ≤ (k : Int) := by omega
      have k2 : (k : Int) < (n : Int) := by omega
      have HL := Lib.hid (show loF P (k + 1) = min (loF P k) (P k 1) from rfl)
      have HH := Lib.hid (show hiF P (k + 1) = max (hiF P k) (P k 1) from rfl)
      generalize loF P k = lo at HL ⊢
      generalize hiF P k = hi at HH ⊢
      generalize P k 1 = z at HL HH c1 ⊢
      go_wp2
      first | refine wp_region_gr2 (by kernel_rfl) (by kernel_rfl) ?_ | refine wp_region_gr (by kernel_rfl) (by kernel_rfl) ?_
      repeat (go_big_quiet_step (fail))
      refine wpQuiet_nil ?_
      intro _ hw'
      obtain ⟨gq, hw''⟩ := hw'
      subst hw''
      go_wp2
      go_roundw
      case rel => exact ⟨k + 1, by omega, by rw [HL.out]; refine congrArg (Value.int .i64) ?_; split <;> omega, by rw [HH.out]; refine congrArg (Value.int .i64) ?_; split <;> omega, by go_num, (by repeat (first | exact Ext.refl _ | exact Y | exact Ext.gr _ _ | apply Ext.wgr | apply Ext.drew | apply Ext.drewN | apply Ext.alloc))⟩
      case measure => simp [intOf]; omega
    · obtain rfl : n = k := by omega
      go_wp2
      refine bodyPost_ret (results_tmp2 rfl _ _ _) rfl ⟨rfl, ((Ext.refl w).alloc _).trans Y⟩

end Go.Proofs.Ytgmhmlhdiklaaaa
