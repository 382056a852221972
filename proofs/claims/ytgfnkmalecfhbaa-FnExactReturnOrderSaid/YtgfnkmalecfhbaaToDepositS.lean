/-
  The law's copy of a slice of Deposits. No conditions.
-/
import Derived.Test.YtgfnkmalecfhbaaInts
import Derived.Test.YtgfnkmalecfhbaaKitE
import Derived.Test.YtgfnkmalecfhbaaToDeposit
import Derived.Test.YtgfnkmalecfhbaaPart3
namespace Go.Proofs.Ytgfnkmalecfhbaa
open Go.RowKit
set_option linter.unusedVariables false

theorem infoDeposit : (Try.prog.info? 30).map (fun i => (i.zero, i.size, i.bytes)) = some (some (Value.agg #[.int .i64 0, .int .i64 0, .int .i64 0]), 3, 24) := by kernel_rfl
theorem madeDeposit (n : Nat) (f : Nat → Nat → Int) : (madeCells (Value.agg #[.int .i64 0, .int .i64 0, .int .i64 0]).cells (n * 3)).toList = (part3 n f 0).map (Value.int .i64) := by
  rw [part3_zero]
  apply List.ext_getElem (by simp [tab, madeCells])
  intro q h1 h2
  have h3 : q % 3 = 0 ∨ q % 3 = 1 ∨ q % 3 = 2 := by omega
  rcases h3 with h | h | h <;> simp [madeCells, tab, Value.cells, h]

set_option maxHeartbeats 2000000 in
theorem toDepositS_any (A : Option Addr) (n c : Nat) (f : Nat → Nat → Int) (hn : n ≤ 1048576) (w : World) (hr : Recs w 3 A n f) :
    Calls Try.prog 12 #[.slice A n c] w (PostS w 30 3 n (flat 3 n f)) := by
  go_enter Try.func12, Try.ntmps12
  go_wp2_with (obtain ⟨i0, hi, hz0, hz1, hz2⟩ := info_parts infoDeposit; refine wpList_make_full _ rfl _ _ 26 rfl w.heap.size 30 i0 (Value.agg #[.int .i64 0, .int .i64 0, .int .i64 0]) 3 Try.underlying26 hi hz0 hz1 .i64 .i64 n n n rfl rfl rfl rfl (by rw [hz2]; omega) (by simp only [maxLen]; omega) (Nat.le_refl _) ?_; intro w1 hown hg1; clear hi hz0 hz1 hz2; rw [madeDeposit n f] at hown)
  have he1 : Ext w w1 := (Ext.refl w).grown hg1 (by simp)
  have hm1 : MineS w.heap.size w1 30 3 (.slice (some ⟨w.heap.size, 0, none⟩) n n) n (part3 n f 0) := ⟨by simp [part3, tab], hown, by intro z hz; rw [part3_zero] at hz; simp [tab] at hz; obtain ⟨_, _, rfl⟩ := hz; exact I64.zero⟩
  clear hown hg1
  go_loopw [4] (fun i wr => ∃ k : Nat, k ≤ n ∧ i = .int .i64 k ∧ Ext w wr ∧ MineS w.heap.size wr 30 3 (.slice (some ⟨w.heap.size, 0, none⟩) n n) n (part3 n f k)) (fun i _ => n - (intOf i).toNat)
  case atStart => exact ⟨0, Nat.zero_le _, rfl, he1, hm1⟩
  case round =>
    clear hm1 he1
    obtain ⟨k, hk, rfl, he, hm⟩ := hrel
    obtain ⟨gx, rfl⟩ := id he
    by_cases hlt : k < n
    · obtain ⟨b, o, rfl, hb, h0, h1, h2⟩ := hr.at3 hlt
      go_wp2_with fail
      refine (toDeposit_any _ _ _ _).mono ?_
      rintro e w1 ⟨rfl, x1⟩
      have he1 := he.trans x1
      have hm1 := hm.ext x1
      have hs1 := he1.size
      clear x1
      obtain ⟨c0, f0, _, _⟩ := hm1.at_ (j := 0) hlt (by omega)
      obtain ⟨c1, f1, _, _⟩ := hm1.at_ (j := 1) hlt (by omega)
      obtain ⟨c2, f2, _, _⟩ := hm1.at_ (j := 2) hlt (by omega)
      rw [Nat.add_zero] at c0 f0
      go_wp2
      go_roundw
      case rel =>
        have hst := (((hm1.stored (i := k * 3) (z := f k 0) (hr.2 k 0)).stored (i := k * 3 + 1) (z := f k 1) (hr.2 k 1)).stored (i := k * 3 + 2) (z := f k 2) (hr.2 k 2))
        rw [part3_set hlt] at hst
        exact ⟨k + 1, by omega, by go_num, (((he1.setCell (Nat.le_refl _) _).setCell (Nat.le_refl _) _).setCell (Nat.le_refl _) _), hst⟩
      case measure => simp [intOf]; omega
    · obtain rfl : k = n := by omega
      go_wp2
      go_ret
      rw [part3_full] at hm
      exact ⟨_, _, rfl, Nat.le_refl _, by omega, hm, he⟩

end Go.Proofs.Ytgfnkmalecfhbaa
