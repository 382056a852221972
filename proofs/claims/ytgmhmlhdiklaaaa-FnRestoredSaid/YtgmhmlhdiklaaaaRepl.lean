/-
  Contracts of ReplacedAfter: the places of the greater numbers. No conditions.
-/
import Derived.Test.YtgmhmlhdiklaaaaInts
namespace Go.Proofs.Ytgmhmlhdiklaaaa
open Go.RowKit
set_option linter.unusedVariables false
set_option maxHeartbeats 2000000 in
theorem impl_ReplacedAfter (A : Option Addr) (n c : Nat) (f : Nat → Nat → Int) (y : Int) (hn : n ≤ 1048576) (w : World) (hr : Recs w 1 A n f) :
    Calls Try.prog 46 #[.slice A n c, .int .i64 y] w (PostI w 3 (pick n fun j => decide (y < f j 0)).length (pick n fun j => decide (y < f j 0))) := by
  have hm1 := Mine.nil_ w.heap.size w 3
  go_enter Try.func46, Try.ntmps46
  go_wp2
  go_loopw [5, 10] (fun v i wr => ∃ k : Nat, k ≤ n ∧ i = .int .i64 k ∧ Ext w wr ∧ Mine w.heap.size wr 3 v (pick k fun j => decide (y < f j 0)).length (pick k fun j => decide (y < f j 0))) (fun _ i _ => n - (intOf i).toNat)
  case atStart => exact ⟨0, Nat.zero_le _, rfl, Ext.refl w, hm1⟩
  case round =>
    clear hm1
    obtain ⟨k, hk, rfl, ⟨gx, rfl⟩, hm⟩ := hrel
    have hpl := pick_len k fun j => decide (y < f j 0)
    by_cases hlt : k < n
    · obtain ⟨b, o, rfl, hb, hc⟩ := hr.at1 hlt
      by_cases hy : y < f k 0
      · have HP := Lib.hid (pick_yes (n := k) (p := fun j => decide (y < f j 0)) (by simpa using hy))
        go_wp2_with (at_builtin; refine append_int _ rfl _ _ rfl w.heap.size _ _ _ rfl (hm.alloc _) (k : Int) _ rfl (cell_new1 (by simp)) (by unfold I64; omega) (by omega) base_wgr ?_; intro v2 w2 hm2 hg2)
        go_roundw
        case rel =>
          have hx := (hm.alloc (.cells #[.int .i64 (k : Int)] 3)).fresh ((Ext.gr w gx).alloc _) (Nat.le_refl _) hg2 rfl
          refine ⟨k + 1, by omega, by go_num, hx, ?_⟩
          rw [HP.out]
          simpa using hm2
        case measure => simp [intOf]; omega
      · have HP := Lib.hid (pick_no (n := k) (p := fun j => decide (y < f j 0)) (by simpa using hy))
        go_wp2
        go_roundw
        case rel => exact ⟨k + 1, by omega, by go_num, Ext.gr w gx, by rw [HP.out]; exact hm⟩
        case measure => simp [intOf]; omega
    · obtain rfl : k = n := by omega
      obtain ⟨A', c', rfl, hc1, hc2⟩ := hm.form
      go_wp2
      go_ret
      exact ⟨A', c', rfl, hc1, hc2, hm, Ext.gr w gx⟩

end Go.Proofs.Ytgmhmlhdiklaaaa
