/-
  The law's copy of a slice of Nodes. No conditions.
-/
import Derived.Test.YtmapnlmljhhciaaInts
import Derived.Test.YtmapnlmljhhciaaKitE
import Derived.Test.YtmapnlmljhhciaaToNode
import Derived.Test.YtmapnlmljhhciaaPart2
namespace Go.Proofs.Ytmapnlmljhhciaa
open Go.RowKit
set_option linter.unusedVariables false

theorem infoNode : (Try.prog.info? 59).map (fun i => (i.zero, i.size, i.bytes)) = some (some (Value.agg #[.int .i64 0, .int .i64 0]), 2, 16) := by kernel_rfl
theorem madeNode (n : Nat) (f : Nat → Nat → Int) : (madeCells (Value.agg #[.int .i64 0, .int .i64 0]).cells (n * 2)).toList = (part2 n f 0).map (Value.int .i64) := by
  rw [part2_zero]
  apply List.ext_getElem (by simp [tab, madeCells])
  intro q h1 h2
  have h3 : q % 2 = 0 ∨ q % 2 = 1 := by omega
  rcases h3 with h | h <;> simp [madeCells, tab, Value.cells, h]

set_option maxHeartbeats 2000000 in
theorem toNodeS_any (A : Option Addr) (n c : Nat) (f : Nat → Nat → Int) (hn : n ≤ 1048576) (w : World) (hr : Recs w 2 A n f) :
    Calls Try.prog 35 #[.slice A n c] w (PostS w 59 2 n (flat 2 n f)) := by
  go_enter Try.func35, Try.ntmps35
  go_wp2_with (obtain ⟨i0, hi, hz0, hz1, hz2⟩ := info_parts infoNode; refine wpList_make_full _ rfl _ _ 30 rfl w.heap.size 59 i0 (Value.agg #[.int .i64 0, .int .i64 0]) 2 Try.underlying30 hi hz0 hz1 .i64 .i64 n n n rfl rfl rfl rfl (by rw [hz2]; omega) (by simp only [maxLen]; omega) (Nat.le_refl _) ?_; intro w1 hown hg1; clear hi hz0 hz1 hz2; rw [madeNode n f] at hown)
  have he1 : Ext w w1 := (Ext.refl w).grown hg1 (by simp)
  have hm1 : MineS w.heap.size w1 59 2 (.slice (some ⟨w.heap.size, 0, none⟩) n n) n (part2 n f 0) := ⟨by simp [part2, tab], hown, by intro z hz; rw [part2_zero] at hz; simp [tab] at hz; obtain ⟨_, _, rfl⟩ := hz; exact I64.zero⟩
  clear hown hg1
  go_loopw [4] (fun i wr => ∃ k : Nat, k ≤ n ∧ i = .int .i64 k ∧ Ext w wr ∧ MineS w.heap.size wr 59 2 (.slice (some ⟨w.heap.size, 0, none⟩) n n) n (part2 n f k)) (fun i _ => n - (intOf i).toNat)
  case atStart => exact ⟨0, Nat.zero_le _, rfl, he1, hm1⟩
  case round =>
    clear hm1 he1
    obtain ⟨k, hk, rfl, he, hm⟩ := hrel
    obtain ⟨gx, rfl⟩ := id he
    by_cases hlt : k < n
    · obtain ⟨b, o, rfl, hb, h0, h1⟩ := hr.at2 hlt
      go_wp2_with fail
      refine (toNode_any _ _ _).mono ?_
      rintro e w1 ⟨rfl, x1⟩
      have he1 := he.trans x1
      have hm1 := hm.ext x1
      have hs1 := he1.size
      clear x1
      obtain ⟨c0, f0, _, _⟩ := hm1.at_ (j := 0) hlt (by omega)
      obtain ⟨c1, f1, _, _⟩ := hm1.at_ (j := 1) hlt (by omega)
      rw [Nat.add_zero] at c0 f0
      go_wp2
      go_roundw
      case rel =>
        have hst := ((hm1.stored (i := k * 2) (z := f k 0) (hr.2 k 0)).stored (i := k * 2 + 1) (z := f k 1) (hr.2 k 1))
        rw [part2_set hlt] at hst
        exact ⟨k + 1, by omega, by go_num, ((he1.setCell (Nat.le_refl _) _).setCell (Nat.le_refl _) _), hst⟩
      case measure => simp [intOf]; omega
    · obtain rfl : k = n := by omega
      go_wp2
      go_ret
      rw [part2_full] at hm
      exact ⟨_, _, rfl, Nat.le_refl _, by omega, hm, he⟩

end Go.Proofs.Ytmapnlmljhhciaa
