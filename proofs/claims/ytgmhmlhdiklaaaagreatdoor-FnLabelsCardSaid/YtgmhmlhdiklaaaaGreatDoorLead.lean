/-
  Contracts of the test on a lead. No conditions.
-/
import Derived.Test.YtgmhmlhdiklaaaaGreatDoorPtEq
import Derived.Test.YtgmhmlhdiklaaaaGreatDoorSpecTurn
import Derived.Deep.RegionHeld3
import Derived.IntWalk
namespace Go.Proofs.YtgmhmlhdiklaaaaGreatDoor
open Go.RowKit
set_option linter.unusedVariables false

theorem run_neqNode (a0 a1 b0 b1 : Int) (w : World) :
    (binOp .neq 38 (.agg #[.int .i64 a0, .int .i64 a1]) (.agg #[.int .i64 b0, .int .i64 b1])).run Tryz.prog w = .ok (.bool (!ptEq a0 a1 b0 b1)) w := by
  have hu := Tryz.underlying38
  by_cases h0 : a0 = b0 <;> by_cases h1 : a1 = b1 <;> simp [binOp, Op.equal, Op.maxDepth, go_sem, ptEq, h0, h1]
/-- A lead from node l0 to node l1 among the n nodes P. -/
def rngB (n : Nat) (l0 l1 : Int) : Bool := decide (0 ≤ l0 ∧ l0 < l1 ∧ l1 < n)
theorem rngB_no {n : Nat} {l0 l1 : Int} (h : ¬ (0 ≤ l0 ∧ l0 < l1 ∧ l1 < n)) : rngB n l0 l1 = false := by unfold rngB; simp; omega
theorem rngB_nat {n i j : Nat} (h : i < j) (k : j < n) : rngB n i j = true := by unfold rngB; simp; omega
theorem rngB_get {n : Nat} {l0 l1 : Int} (h : rngB n l0 l1 = true) : ∃ i j : Nat, l0 = i ∧ l1 = j ∧ i < j ∧ j < n := by
  have q : 0 ≤ l0 ∧ l0 < l1 ∧ l1 < n := by simpa [rngB] using h
  exact ⟨l0.toNat, l1.toNat, by omega, by omega, by omega, by omega⟩
/-- All nodes are in the square, and no two are one. -/
def NodesOk (n : Nat) (P : Nat → Nat → Int) : Prop := (∀ k, k < n → nodeB (P k 0) (P k 1) = true) ∧ ∀ i j, i < j → j < n → ptEq (P i 0) (P i 1) (P j 0) (P j 1) = false
theorem ptEq_comm (a b c d : Int) : ptEq a b c d = ptEq c d a b := by unfold ptEq; exact decide_eq_decide.2 ⟨fun h => ⟨h.1.symm, h.2.symm⟩, fun h => ⟨h.1.symm, h.2.symm⟩⟩
theorem NodesOk.ne {n : Nat} {P : Nat → Nat → Int} (h : NodesOk n P) {i j : Nat} (hi : i < n) (hj : j < n) (hne : i ≠ j) : ptEq (P i 0) (P i 1) (P j 0) (P j 1) = false := by
  rcases Nat.lt_or_gt_of_ne hne with q | q
  · exact h.2 i j q hj
  · rw [ptEq_comm]; exact h.2 j i q hi
theorem NodesOk.eq {n : Nat} {P : Nat → Nat → Int} (h : NodesOk n P) {i j : Nat} (hi : i < n) (hj : j < n) : ptEq (P i 0) (P i 1) (P j 0) (P j 1) = decide (i = j) := by
  by_cases e : i = j
  · subst e; simp [ptEq]
  · rw [h.ne hi hj e]; simp [e]

set_option maxRecDepth 100000 in
set_option maxHeartbeats 4000000 in
theorem impl_LeadOk (A : Option Addr) (n c : Nat) (P : Nat → Nat → Int) (l0 l1 : Int) (hn : n ≤ 9223372036854775807) (hN : NodesOk n P) (w : World) (hr : Recs w 2 A n P) :
    Calls Tryz.prog 55 #[.slice A n c, .agg #[.int .i64 l0, .int .i64 l1]] w fun e w' => e = .returned (.bool (rngB n l0 l1)) ∧ Ext w w' := by
  by_cases h0 : l0 < 0
  · have HR := Lib.hid (rngB_no (n := n) (l0 := l0) (l1 := l1) (by omega))
    have k0 : decide (0 ≤ l0) = false := by simp; omega
    go_enter Tryz.func55, Tryz.ntmps55
    go_wp2
    first | refine wp_region_gr2 (by kernel_rfl) (by kernel_rfl) ?_ | refine wp_region_gr (by kernel_rfl) (by kernel_rfl) ?_
    repeat (go_big_quiet_step (fail))
    refine wpQuiet_nil ?_
    intro _ hw'
    obtain ⟨gq, hw''⟩ := hw'
    subst hw''
    go_wp2
    go_ret
    exact ⟨congrArg (fun z => Ending.returned (.bool z)) HR.out.symm, by repeat (first | exact Ext.refl _ | apply Ext.wgr | apply Ext.drew | apply Ext.drewN | apply Ext.alloc)⟩
  by_cases h1 : l1 ≤ l0
  · have HR := Lib.hid (rngB_no (n := n) (l0 := l0) (l1 := l1) (by omega))
    have k0 : decide (0 ≤ l0) = true := by simp; omega
    have k1 : decide (l0 < l1) = false := by simp; omega
    go_enter Tryz.func55, Tryz.ntmps55
    go_wp2
    first | refine wp_region_gr2 (by kernel_rfl) (by kernel_rfl) ?_ | refine wp_region_gr (by kernel_rfl) (by kernel_rfl) ?_
    repeat (go_big_quiet_step (fail))
    refine wpQuiet_nil ?_
    intro _ hw'
    obtain ⟨gq, hw''⟩ := hw'
    subst hw''
    go_wp2
    go_ret
    exact ⟨congrArg (fun z => Ending.returned (.bool z)) HR.out.symm, by repeat (first | exact Ext.refl _ | apply Ext.wgr | apply Ext.drew | apply Ext.drewN | apply Ext.alloc)⟩
  by_cases h2 : (n : Int) ≤ l1
  · have HR := Lib.hid (rngB_no (n := n) (l0 := l0) (l1 := l1) (by omega))
    have k0 : decide (0 ≤ l0) = true := by simp; omega
    have k1 : decide (l0 < l1) = true := by simp; omega
    have k2 : decide (l1 < n) = false := by simp; omega
    go_enter Tryz.func55, Tryz.ntmps55
    go_wp2
    first | refine wp_region_gr2 (by kernel_rfl) (by kernel_rfl) ?_ | refine wp_region_gr (by kernel_rfl) (by kernel_rfl) ?_
    repeat (go_big_quiet_step (fail))
    refine wpQuiet_nil ?_
    intro _ hw'
    obtain ⟨gq, hw''⟩ := hw'
    subst hw''
    go_wp2
    go_ret
    exact ⟨congrArg (fun z => Ending.returned (.bool z)) HR.out.symm, by repeat (first | exact Ext.refl _ | apply Ext.wgr | apply Ext.drew | apply Ext.drewN | apply Ext.alloc)⟩
  obtain ⟨i, rfl⟩ : ∃ i : Nat, l0 = i := ⟨l0.toNat, by omega⟩
  obtain ⟨j, rfl⟩ : ∃ j : Nat, l1 = j := ⟨l1.toNat, by omega⟩
  have hij : i < j := by omega
  have hjn : j < n := by omega
  have hin : i < n := by omega
  have HR := Lib.hid (rngB_nat hij hjn)
  have hn1 := hN.1 i (by omega)
  have hn3 := hN.1 j (by omega)
  have he := hN.2 i j hij hjn
  have HN := Lib.hid hN
  clear hN
  obtain ⟨b, o, rfl, hb, _⟩ := hr.at2 hjn
  obtain ⟨e0, e1⟩ := hr.cell2 hin
  obtain ⟨f0, f1⟩ := hr.cell2 hjn
  have p0 := hr.2 i 0
  have p1 := hr.2 i 1
  have q0 := hr.2 j 0
  have q1 := hr.2 j 1
  have hE := run_neqNode
  have b0 : (w.alloc (.cells #[.int .i64 (i : Int), .int .i64 (j : Int)] 71)).cell? ⟨w.heap.size, 0, none⟩ = some (.int .i64 (i : Int)) := by simp [go_sem]
  have b1 : (w.alloc (.cells #[.int .i64 (i : Int), .int .i64 (j : Int)] 71)).cell? ⟨w.heap.size, 1, none⟩ = some (.int .i64 (j : Int)) := by simp [go_sem]
  have c0 := ((Ext.refl w).alloc (.cells #[.int .i64 (i : Int), .int .i64 (j : Int)] 71)).cell e0
  have c1 := ((Ext.refl w).alloc (.cells #[.int .i64 (i : Int), .int .i64 (j : Int)] 71)).cell e1
  have d0 := ((Ext.refl w).alloc (.cells #[.int .i64 (i : Int), .int .i64 (j : Int)] 71)).cell f0
  have d1 := ((Ext.refl w).alloc (.cells #[.int .i64 (i : Int), .int .i64 (j : Int)] 71)).cell f1
  have k0 : decide ((0 : Int) ≤ (i : Int)) = true := by simp
  have k1 : decide (i < j) = true := by simpa using hij
  have k2 : decide (j < n) = true := by simpa using hjn
  have k3 : (0 : Int) ≤ (i : Int) := by omega
  have k4 : (i : Int) < (n : Int) := by omega
  have k5 : (0 : Int) ≤ (j : Int) := by omega
  have k6 : (j : Int) < (n : Int) := by omega
  clear h0 h1 h2 hij
  have P0 := Lib.hid p0
  have P1 := Lib.hid p1
  have Q0 := Lib.hid q0
  have Q1 := Lib.hid q1
  clear p0 p1 q0 q1
  have hn2 : (nodeB (P i 0) (P i 1) && nodeB (P j 0) (P j 1)) = true := by rw [hn1, hn3]; rfl
  have HN1 := Lib.hid hn1
  have HN3 := Lib.hid hn3
  clear hn1 hn3
  go_enter Tryz.func55, Tryz.ntmps55
  go_wp2
  go_region_held3 (fun w' => (w'.cell? ⟨w.heap.size, 0, none⟩ = some (.int .i64 (i : Int)) ∧ w'.cell? ⟨w.heap.size, 1, none⟩ = some (.int .i64 (j : Int))) ∧ (w'.cell? ⟨b, o + i * 2, none⟩ = some (.int .i64 (P i 0)) ∧ w'.cell? ⟨b, o + i * 2 + 1, none⟩ = some (.int .i64 (P i 1))) ∧ w'.cell? ⟨b, o + j * 2, none⟩ = some (.int .i64 (P j 0)) ∧ w'.cell? ⟨b, o + j * 2 + 1, none⟩ = some (.int .i64 (P j 1))) (first | exact ⟨⟨b0, b1⟩, ⟨c0, c1⟩, d0, d1⟩ | exact ⟨⟨b0a, b1a⟩, ⟨c0a, c1a⟩, d0a, d1a⟩ | go_keep) (first
    | (go_at_call 53; refine (impl_nodesOk _ 2 _ (pts2 (P i 0) (P i 1) (P j 0) (P j 1)) (by omega) _ ((Recs.lit2 (by simp) P0.out P1.out Q0.out Q1.out).ext ((Ext.refl _).drew))).mono ?_; rintro e w2 ⟨rfl, x2⟩; rw [nodesB2, hn2]; have b0a := x2.cell ((show Ext (w.alloc (.cells #[.int .i64 (i : Int), .int .i64 (j : Int)] 71)) _ from (by repeat (first | exact Ext.refl _ | apply Ext.drew | apply Ext.drewN | apply Ext.alloc | apply Ext.wgr))).cell b0); have b1a := x2.cell ((show Ext (w.alloc (.cells #[.int .i64 (i : Int), .int .i64 (j : Int)] 71)) _ from (by repeat (first | exact Ext.refl _ | apply Ext.drew | apply Ext.drewN | apply Ext.alloc | apply Ext.wgr))).cell b1); have c0a := x2.cell ((show Ext (w.alloc (.cells #[.int .i64 (i : Int), .int .i64 (j : Int)] 71)) _ from (by repeat (first | exact Ext.refl _ | apply Ext.drew | apply Ext.drewN | apply Ext.alloc | apply Ext.wgr))).cell c0); have c1a := x2.cell ((show Ext (w.alloc (.cells #[.int .i64 (i : Int), .int .i64 (j : Int)] 71)) _ from (by repeat (first | exact Ext.refl _ | apply Ext.drew | apply Ext.drewN | apply Ext.alloc | apply Ext.wgr))).cell c1); have d0a := x2.cell ((show Ext (w.alloc (.cells #[.int .i64 (i : Int), .int .i64 (j : Int)] 71)) _ from (by repeat (first | exact Ext.refl _ | apply Ext.drew | apply Ext.drewN | apply Ext.alloc | apply Ext.wgr))).cell d0); have d1a := x2.cell ((show Ext (w.alloc (.cells #[.int .i64 (i : Int), .int .i64 (j : Int)] 71)) _ from (by repeat (first | exact Ext.refl _ | apply Ext.drew | apply Ext.drewN | apply Ext.alloc | apply Ext.wgr))).cell d1); have X2 := (show Ext w _ from (by repeat (first | exact Ext.refl _ | apply Ext.drew | apply Ext.drewN | apply Ext.alloc | apply Ext.wgr))).trans x2))
  go_wp2
  go_ret
  exact ⟨congrArg (fun z => Ending.returned (.bool z)) HR.out.symm, X2⟩

end Go.Proofs.YtgmhmlhdiklaaaaGreatDoor
