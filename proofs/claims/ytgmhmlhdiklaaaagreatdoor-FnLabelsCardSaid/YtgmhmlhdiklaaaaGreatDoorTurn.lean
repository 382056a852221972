/-
  Contracts of the turn at a node. No conditions.
-/
import Derived.Test.YtgmhmlhdiklaaaaGreatDoorNodes
namespace Go.Proofs.YtgmhmlhdiklaaaaGreatDoor
open Go.RowKit
set_option linter.unusedVariables false

/-- Three points, as a function of place and coordinate. -/
def pts3 (a0 a1 b0 b1 c0 c1 : Int) (k j : Nat) : Int := if k = 0 then (if j = 0 then a0 else a1) else if k = 1 then (if j = 0 then b0 else b1) else if j = 0 then c0 else c1
def pts2 (a0 a1 b0 b1 : Int) (k j : Nat) : Int := if k = 0 then (if j = 0 then a0 else a1) else if j = 0 then b0 else b1
theorem Recs.lit3 {w : World} {E : TypeId} {b : Nat} (hb : b = w.heap.size) {a0 a1 b0 b1 c0 c1 : Int} (h0 : I64 a0) (h1 : I64 a1) (h2 : I64 b0) (h3 : I64 b1) (h4 : I64 c0) (h5 : I64 c1) :
    Recs (w.alloc (.cells #[.int .i64 a0, .int .i64 a1, .int .i64 b0, .int .i64 b1, .int .i64 c0, .int .i64 c1] E)) 2 (some ⟨b, 0, none⟩) 3 (pts3 a0 a1 b0 b1 c0 c1) := by
  subst hb
  refine ⟨fun _ => ⟨w.heap.size, 0, rfl, by simp, fun k hk j hj => ?_⟩, fun k j => ?_⟩
  · have hk' : k = 0 ∨ k = 1 ∨ k = 2 := by omega
    have hj' : j = 0 ∨ j = 1 := by omega
    rcases hk' with rfl | rfl | rfl <;> rcases hj' with rfl | rfl <;> simp [pts3]
  · unfold pts3
    repeat' split
    all_goals assumption
theorem Recs.lit2 {w : World} {E : TypeId} {b : Nat} (hb : b = w.heap.size) {a0 a1 b0 b1 : Int} (h0 : I64 a0) (h1 : I64 a1) (h2 : I64 b0) (h3 : I64 b1) :
    Recs (w.alloc (.cells #[.int .i64 a0, .int .i64 a1, .int .i64 b0, .int .i64 b1] E)) 2 (some ⟨b, 0, none⟩) 2 (pts2 a0 a1 b0 b1) := by
  subst hb
  refine ⟨fun _ => ⟨w.heap.size, 0, rfl, by simp, fun k hk j hj => ?_⟩, fun k j => ?_⟩
  · have hk' : k = 0 ∨ k = 1 := by omega
    have hj' : j = 0 ∨ j = 1 := by omega
    rcases hk' with rfl | rfl <;> rcases hj' with rfl | rfl <;> simp [pts2]
  · unfold pts2
    repeat' split
    all_goals assumption
theorem nodesB3 (a0 a1 b0 b1 c0 c1 : Int) : nodesB 3 (pts3 a0 a1 b0 b1 c0 c1) = (nodeB a0 a1 && nodeB b0 b1 && nodeB c0 c1) := by
  simp [nodesB, allB, List.range_succ, pts3, Bool.and_assoc]
theorem nodesB2 (a0 a1 b0 b1 : Int) : nodesB 2 (pts2 a0 a1 b0 b1) = (nodeB a0 a1 && nodeB b0 b1) := by
  simp [nodesB, allB, List.range_succ, pts2]
theorem nodeB_rng {x y : Int} (h : nodeB x y = true) : 0 ≤ x ∧ x ≤ 20 ∧ 0 ≤ y ∧ y ≤ 20 := by
  simp only [nodeB, Bool.and_eq_true] at h
  have h1 := inB_of h.1
  have h2 := inB_of h.2
  omega
/-- Twice the area of the triangle a b c, with its sign. -/
def trn (a0 a1 b0 b1 c0 c1 : Int) : Int := (b0 - a0) * (c1 - a1) - (b1 - a1) * (c0 - a0)
theorem prod_box {a b : Int} (h1 : -20 ≤ a) (h2 : a ≤ 20) (h3 : -20 ≤ b) (h4 : b ≤ 20) : -400 ≤ a * b ∧ a * b ≤ 400 := by
  have e1 : 0 ≤ (20 - a) * (20 + b) := Int.mul_nonneg (by omega) (by omega)
  have e2 : 0 ≤ (20 + a) * (20 - b) := Int.mul_nonneg (by omega) (by omega)
  have e3 : 0 ≤ (20 - a) * (20 - b) := Int.mul_nonneg (by omega) (by omega)
  have e4 : 0 ≤ (20 + a) * (20 + b) := Int.mul_nonneg (by omega) (by omega)
  simp only [Int.sub_mul, Int.add_mul, Int.mul_sub, Int.mul_add] at e1 e2 e3 e4
  omega

theorem trn_box {a0 a1 b0 b1 c0 c1 : Int} (ha : nodeB a0 a1 = true) (hb : nodeB b0 b1 = true) (hc : nodeB c0 c1 = true) :
    (0 ≤ a0 ∧ a0 ≤ 20 ∧ 0 ≤ a1 ∧ a1 ≤ 20) ∧ (0 ≤ b0 ∧ b0 ≤ 20 ∧ 0 ≤ b1 ∧ b1 ≤ 20) ∧ (0 ≤ c0 ∧ c0 ≤ 20 ∧ 0 ≤ c1 ∧ c1 ≤ 20) ∧ (-400 ≤ (b0 - a0) * (c1 - a1) ∧ (b0 - a0) * (c1 - a1) ≤ 400) ∧ (-400 ≤ (b1 - a1) * (c0 - a0) ∧ (b1 - a1) * (c0 - a0) ≤ 400) := by
  have h1 := nodeB_rng ha
  have h2 := nodeB_rng hb
  have h3 := nodeB_rng hc
  have h4 := prod_box (a := b0 - a0) (b := c1 - a1) (by omega) (by omega) (by omega) (by omega)
  have h5 := prod_box (a := b1 - a1) (b := c0 - a0) (by omega) (by omega) (by omega) (by omega)
  omega
def turnV (a0 a1 b0 b1 c0 c1 : Int) : Int := if (nodeB a0 a1 && nodeB b0 b1 && nodeB c0 c1) = true then trn a0 a1 b0 b1 c0 c1 else 0
set_option maxHeartbeats 800000 in
theorem impl_TurnOf (a0 a1 b0 b1 c0 c1 : Int) (ha0 : I64 a0) (ha1 : I64 a1) (hb0 : I64 b0) (hb1 : I64 b1) (hc0 : I64 c0) (hc1 : I64 c1) (w : World) :
    Calls Tryz.prog 72 #[.agg #[.int .i64 a0, .int .i64 a1], .agg #[.int .i64 b0, .int .i64 b1], .agg #[.int .i64 c0, .int .i64 c1]] w fun e w' => e = .returned (.int .i64 (turnV a0 a1 b0 b1 c0 c1)) ∧ Ext w w' := by
  cases h : (nodeB a0 a1 && nodeB b0 b1 && nodeB c0 c1)
  · have HR : Hid (turnV a0 a1 b0 b1 c0 c1 = 0) := Lib.hid (if_neg (by rw [h]; simp))
    go_enter Tryz.func72, Tryz.ntmps72
    go_wp2_with (go_at_call 53; refine (impl_nodesOk _ 3 _ (pts3 a0 a1 b0 b1 c0 c1) (by omega) _ (Recs.lit3 (by simp) ha0 ha1 hb0 hb1 hc0 hc1)).mono ?_; rintro e w2 ⟨rfl, g, rfl⟩; rw [nodesB3])
    go_ret
    exact ⟨congrArg (fun z => Ending.returned (.int .i64 z)) HR.out.symm, by repeat (first | exact Ext.refl _ | apply Ext.wgr | apply Ext.drew | apply Ext.drewN | apply Ext.alloc)⟩
  · have HR : Hid (turnV a0 a1 b0 b1 c0 c1 = trn a0 a1 b0 b1 c0 c1) := Lib.hid (if_pos h)
    have h' := h
    rw [Bool.and_eq_true, Bool.and_eq_true] at h'
    obtain ⟨r1, r2, r3, r4, r5⟩ := trn_box h'.1.1 h'.1.2 h'.2
    clear h'
    go_enter Tryz.func72, Tryz.ntmps72
    go_wp2_with (go_at_call 53; refine (impl_nodesOk _ 3 _ (pts3 a0 a1 b0 b1 c0 c1) (by omega) _ (Recs.lit3 (by simp) ha0 ha1 hb0 hb1 hc0 hc1)).mono ?_; rintro e w2 ⟨rfl, x2⟩; rw [nodesB3]; have q00 := x2.cell (a := ⟨w.heap.size, 0, none⟩) (u := .int .i64 a0) (by simp [go_sem]); have q01 := x2.cell (a := ⟨w.heap.size, 1, none⟩) (u := .int .i64 a1) (by simp [go_sem]); have q10 := x2.cell (a := ⟨w.heap.size + 1, 0, none⟩) (u := .int .i64 b0) (by simp [go_sem]); have q11 := x2.cell (a := ⟨w.heap.size + 1, 1, none⟩) (u := .int .i64 b1) (by simp [go_sem]); have q20 := x2.cell (a := ⟨w.heap.size + 1 + 1, 0, none⟩) (u := .int .i64 c0) (by simp [go_sem]); have q21 := x2.cell (a := ⟨w.heap.size + 1 + 1, 1, none⟩) (u := .int .i64 c1) (by simp [go_sem]); have X2 := (Ext.refl w).alloc _ |>.alloc _ |>.alloc _ |>.alloc _ |>.trans x2; clear x2)
    go_ret
    exact ⟨congrArg (fun z => Ending.returned (.int .i64 z)) HR.out.symm, X2⟩

end Go.Proofs.YtgmhmlhdiklaaaaGreatDoor
