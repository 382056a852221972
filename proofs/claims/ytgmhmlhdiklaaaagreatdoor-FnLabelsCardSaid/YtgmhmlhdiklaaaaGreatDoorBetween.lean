/-
  Contracts of the test whether a node lies between two others. No conditions.
-/
import Derived.Test.YtgmhmlhdiklaaaaGreatDoorSpecTurn
import Derived.Test.YtgmhmlhdiklaaaaGreatDoorPtEq
namespace Go.Proofs.YtgmhmlhdiklaaaaGreatDoor
open Go.RowKit
set_option linter.unusedVariables false

def betwB (a0 a1 b0 b1 c0 c1 : Int) : Bool :=
  (nodeB a0 a1 && nodeB b0 b1 && nodeB c0 c1) && !ptEq a0 a1 b0 b1 && !ptEq a0 a1 c0 c1 && !ptEq b0 b1 c0 c1 && decide (trn a0 a1 b0 b1 c0 c1 = 0) && (inB c0 (min a0 b0) (max a0 b0) && inB c1 (min a1 b1) (max a1 b1))

theorem turnV_yes {a0 a1 b0 b1 c0 c1 : Int} (h : (nodeB a0 a1 && nodeB b0 b1 && nodeB c0 c1) = true) : turnV a0 a1 b0 b1 c0 c1 = trn a0 a1 b0 b1 c0 c1 := if_pos h

set_option maxHeartbeats 2000000 in
theorem impl_IsBetween_no (a0 a1 b0 b1 c0 c1 : Int) (ha0 : I64 a0) (ha1 : I64 a1) (hb0 : I64 b0) (hb1 : I64 b1) (hc0 : I64 c0) (hc1 : I64 c1) (h : (nodeB a0 a1 && nodeB b0 b1 && nodeB c0 c1) = false) (w : World) :
    Calls Tryz.prog 71 #[.agg #[.int .i64 a0, .int .i64 a1], .agg #[.int .i64 b0, .int .i64 b1], .agg #[.int .i64 c0, .int .i64 c1]] w fun e w' => e = .returned (.bool (betwB a0 a1 b0 b1 c0 c1)) ∧ Ext w w' := by
  have HR : Hid (betwB a0 a1 b0 b1 c0 c1 = false) := Lib.hid (by unfold betwB; rw [h]; rfl)
  have hE := run_eqNode
  go_enter Tryz.func71, Tryz.ntmps71
  go_wp2_with (go_at_call 53; refine (impl_nodesOk _ 3 _ (pts3 a0 a1 b0 b1 c0 c1) (by omega) _ (Recs.lit3 (by simp) ha0 ha1 hb0 hb1 hc0 hc1)).mono ?_; rintro e w2 ⟨rfl, x2⟩; rw [nodesB3]; have q00 := x2.cell (a := ⟨w.heap.size, 0, none⟩) (u := .int .i64 a0) (by simp [go_sem]); have q01 := x2.cell (a := ⟨w.heap.size, 1, none⟩) (u := .int .i64 a1) (by simp [go_sem]); have q10 := x2.cell (a := ⟨w.heap.size + 1, 0, none⟩) (u := .int .i64 b0) (by simp [go_sem]); have q11 := x2.cell (a := ⟨w.heap.size + 1, 1, none⟩) (u := .int .i64 b1) (by simp [go_sem]); have q20 := x2.cell (a := ⟨w.heap.size + 1 + 1, 0, none⟩) (u := .int .i64 c0) (by simp [go_sem]); have q21 := x2.cell (a := ⟨w.heap.size + 1 + 1, 1, none⟩) (u := .int .i64 c1) (by simp [go_sem]); have X2 := (Ext.refl w).alloc _ |>.alloc _ |>.alloc _ |>.alloc _ |>.trans x2; clear x2)
  go_ret
  exact ⟨congrArg (fun z => Ending.returned (.bool z)) HR.out.symm, X2⟩

set_option maxHeartbeats 2000000 in
theorem impl_IsBetween_e1 (a0 a1 b0 b1 c0 c1 : Int) (ha0 : I64 a0) (ha1 : I64 a1) (hb0 : I64 b0) (hb1 : I64 b1) (hc0 : I64 c0) (hc1 : I64 c1) (h : (nodeB a0 a1 && nodeB b0 b1 && nodeB c0 c1) = true)(h1 : ptEq a0 a1 b0 b1 = true) (w : World) :
    Calls Tryz.prog 71 #[.agg #[.int .i64 a0, .int .i64 a1], .agg #[.int .i64 b0, .int .i64 b1], .agg #[.int .i64 c0, .int .i64 c1]] w fun e w' => e = .returned (.bool (betwB a0 a1 b0 b1 c0 c1)) ∧ Ext w w' := by
  have HR : Hid (betwB a0 a1 b0 b1 c0 c1 = false) := Lib.hid (by unfold betwB; rw [h, h1]; rfl)
  have hE := run_eqNode
  go_enter Tryz.func71, Tryz.ntmps71
  go_wp2_with (go_at_call 53; refine (impl_nodesOk _ 3 _ (pts3 a0 a1 b0 b1 c0 c1) (by omega) _ (Recs.lit3 (by simp) ha0 ha1 hb0 hb1 hc0 hc1)).mono ?_; rintro e w2 ⟨rfl, x2⟩; rw [nodesB3]; have q00 := x2.cell (a := ⟨w.heap.size, 0, none⟩) (u := .int .i64 a0) (by simp [go_sem]); have q01 := x2.cell (a := ⟨w.heap.size, 1, none⟩) (u := .int .i64 a1) (by simp [go_sem]); have q10 := x2.cell (a := ⟨w.heap.size + 1, 0, none⟩) (u := .int .i64 b0) (by simp [go_sem]); have q11 := x2.cell (a := ⟨w.heap.size + 1, 1, none⟩) (u := .int .i64 b1) (by simp [go_sem]); have q20 := x2.cell (a := ⟨w.heap.size + 1 + 1, 0, none⟩) (u := .int .i64 c0) (by simp [go_sem]); have q21 := x2.cell (a := ⟨w.heap.size + 1 + 1, 1, none⟩) (u := .int .i64 c1) (by simp [go_sem]); have X2 := (Ext.refl w).alloc _ |>.alloc _ |>.alloc _ |>.alloc _ |>.trans x2; clear x2)
  go_ret
  exact ⟨congrArg (fun z => Ending.returned (.bool z)) HR.out.symm, X2⟩

set_option maxHeartbeats 2000000 in
theorem impl_IsBetween_e2 (a0 a1 b0 b1 c0 c1 : Int) (ha0 : I64 a0) (ha1 : I64 a1) (hb0 : I64 b0) (hb1 : I64 b1) (hc0 : I64 c0) (hc1 : I64 c1) (h : (nodeB a0 a1 && nodeB b0 b1 && nodeB c0 c1) = true)(h1 : ptEq a0 a1 b0 b1 = false)(h2 : ptEq a0 a1 c0 c1 = true) (w : World) :
    Calls Tryz.prog 71 #[.agg #[.int .i64 a0, .int .i64 a1], .agg #[.int .i64 b0, .int .i64 b1], .agg #[.int .i64 c0, .int .i64 c1]] w fun e w' => e = .returned (.bool (betwB a0 a1 b0 b1 c0 c1)) ∧ Ext w w' := by
  have HR : Hid (betwB a0 a1 b0 b1 c0 c1 = false) := Lib.hid (by unfold betwB; rw [h, h1, h2]; rfl)
  have hE := run_eqNode
  go_enter Tryz.func71, Tryz.ntmps71
  go_wp2_with (go_at_call 53; refine (impl_nodesOk _ 3 _ (pts3 a0 a1 b0 b1 c0 c1) (by omega) _ (Recs.lit3 (by simp) ha0 ha1 hb0 hb1 hc0 hc1)).mono ?_; rintro e w2 ⟨rfl, x2⟩; rw [nodesB3]; have q00 := x2.cell (a := ⟨w.heap.size, 0, none⟩) (u := .int .i64 a0) (by simp [go_sem]); have q01 := x2.cell (a := ⟨w.heap.size, 1, none⟩) (u := .int .i64 a1) (by simp [go_sem]); have q10 := x2.cell (a := ⟨w.heap.size + 1, 0, none⟩) (u := .int .i64 b0) (by simp [go_sem]); have q11 := x2.cell (a := ⟨w.heap.size + 1, 1, none⟩) (u := .int .i64 b1) (by simp [go_sem]); have q20 := x2.cell (a := ⟨w.heap.size + 1 + 1, 0, none⟩) (u := .int .i64 c0) (by simp [go_sem]); have q21 := x2.cell (a := ⟨w.heap.size + 1 + 1, 1, none⟩) (u := .int .i64 c1) (by simp [go_sem]); have X2 := (Ext.refl w).alloc _ |>.alloc _ |>.alloc _ |>.alloc _ |>.trans x2; clear x2)
  go_ret
  exact ⟨congrArg (fun z => Ending.returned (.bool z)) HR.out.symm, X2⟩

set_option maxHeartbeats 2000000 in
theorem impl_IsBetween_e3 (a0 a1 b0 b1 c0 c1 : Int) (ha0 : I64 a0) (ha1 : I64 a1) (hb0 : I64 b0) (hb1 : I64 b1) (hc0 : I64 c0) (hc1 : I64 c1) (h : (nodeB a0 a1 && nodeB b0 b1 && nodeB c0 c1) = true)(h1 : ptEq a0 a1 b0 b1 = false)(h2 : ptEq a0 a1 c0 c1 = false)(h3 : ptEq b0 b1 c0 c1 = true) (w : World) :
    Calls Tryz.prog 71 #[.agg #[.int .i64 a0, .int .i64 a1], .agg #[.int .i64 b0, .int .i64 b1], .agg #[.int .i64 c0, .int .i64 c1]] w fun e w' => e = .returned (.bool (betwB a0 a1 b0 b1 c0 c1)) ∧ Ext w w' := by
  have HR : Hid (betwB a0 a1 b0 b1 c0 c1 = false) := Lib.hid (by unfold betwB; rw [h, h1, h2, h3]; rfl)
  have hE := run_eqNode
  go_enter Tryz.func71, Tryz.ntmps71
  go_wp2_with (go_at_call 53; refine (impl_nodesOk _ 3 _ (pts3 a0 a1 b0 b1 c0 c1) (by omega) _ (Recs.lit3 (by simp) ha0 ha1 hb0 hb1 hc0 hc1)).mono ?_; rintro e w2 ⟨rfl, x2⟩; rw [nodesB3]; have q00 := x2.cell (a := ⟨w.heap.size, 0, none⟩) (u := .int .i64 a0) (by simp [go_sem]); have q01 := x2.cell (a := ⟨w.heap.size, 1, none⟩) (u := .int .i64 a1) (by simp [go_sem]); have q10 := x2.cell (a := ⟨w.heap.size + 1, 0, none⟩) (u := .int .i64 b0) (by simp [go_sem]); have q11 := x2.cell (a := ⟨w.heap.size + 1, 1, none⟩) (u := .int .i64 b1) (by simp [go_sem]); have q20 := x2.cell (a := ⟨w.heap.size + 1 + 1, 0, none⟩) (u := .int .i64 c0) (by simp [go_sem]); have q21 := x2.cell (a := ⟨w.heap.size + 1 + 1, 1, none⟩) (u := .int .i64 c1) (by simp [go_sem]); have X2 := (Ext.refl w).alloc _ |>.alloc _ |>.alloc _ |>.alloc _ |>.trans x2; clear x2)
  go_ret
  exact ⟨congrArg (fun z => Ending.returned (.bool z)) HR.out.symm, X2⟩

set_option maxHeartbeats 2000000 in
theorem impl_IsBetween_tn (a0 a1 b0 b1 c0 c1 : Int) (ha0 : I64 a0) (ha1 : I64 a1) (hb0 : I64 b0) (hb1 : I64 b1) (hc0 : I64 c0) (hc1 : I64 c1) (h : (nodeB a0 a1 && nodeB b0 b1 && nodeB c0 c1) = true)(h1 : ptEq a0 a1 b0 b1 = false)(h2 : ptEq a0 a1 c0 c1 = false)(h3 : ptEq b0 b1 c0 c1 = false)(h4 : trn a0 a1 b0 b1 c0 c1 ≠ 0) (w : World) :
    Calls Tryz.prog 71 #[.agg #[.int .i64 a0, .int .i64 a1], .agg #[.int .i64 b0, .int .i64 b1], .agg #[.int .i64 c0, .int .i64 c1]] w fun e w' => e = .returned (.bool (betwB a0 a1 b0 b1 c0 c1)) ∧ Ext w w' := by
  have HR : Hid (betwB a0 a1 b0 b1 c0 c1 = false) := Lib.hid (by unfold betwB; rw [h, h1, h2, h3]; simp [h4])
  have hE := run_eqNode
  have k1 : (trn a0 a1 b0 b1 c0 c1 != 0) = true := by simpa using h4
  clear h4
  go_enter Tryz.func71, Tryz.ntmps71
  go_wp2_with (first | (go_at_call 53; refine (impl_nodesOk _ 3 _ (pts3 a0 a1 b0 b1 c0 c1) (by omega) _ (Recs.lit3 (by simp) ha0 ha1 hb0 hb1 hc0 hc1)).mono ?_; rintro e w2 ⟨rfl, x2⟩; rw [nodesB3]; have q00 := x2.cell (a := ⟨w.heap.size, 0, none⟩) (u := .int .i64 a0) (by simp [go_sem]); have q01 := x2.cell (a := ⟨w.heap.size, 1, none⟩) (u := .int .i64 a1) (by simp [go_sem]); have q10 := x2.cell (a := ⟨w.heap.size + 1, 0, none⟩) (u := .int .i64 b0) (by simp [go_sem]); have q11 := x2.cell (a := ⟨w.heap.size + 1, 1, none⟩) (u := .int .i64 b1) (by simp [go_sem]); have q20 := x2.cell (a := ⟨w.heap.size + 1 + 1, 0, none⟩) (u := .int .i64 c0) (by simp [go_sem]); have q21 := x2.cell (a := ⟨w.heap.size + 1 + 1, 1, none⟩) (u := .int .i64 c1) (by simp [go_sem]); have X2 := (Ext.refl w).alloc _ |>.alloc _ |>.alloc _ |>.alloc _ |>.trans x2; clear x2) | (go_at_call 72; refine (impl_TurnOf _ _ _ _ _ _ ha0 ha1 hb0 hb1 hc0 hc1 _).mono ?_; rintro e w3 ⟨rfl, x3⟩; rw [turnV_yes h]; replace q00 := x3.cell q00; replace q01 := x3.cell q01; replace q10 := x3.cell q10; replace q11 := x3.cell q11; replace q20 := x3.cell q20; replace q21 := x3.cell q21; replace X2 := X2.trans x3; clear x3))
  go_ret
  exact ⟨congrArg (fun z => Ending.returned (.bool z)) HR.out.symm, X2⟩

set_option maxHeartbeats 8000000 in
theorem impl_IsBetween_in (a0 a1 b0 b1 c0 c1 : Int) (ha0 : I64 a0) (ha1 : I64 a1) (hb0 : I64 b0) (hb1 : I64 b1) (hc0 : I64 c0) (hc1 : I64 c1) (h : (nodeB a0 a1 && nodeB b0 b1 && nodeB c0 c1) = true) (h1 : ptEq a0 a1 b0 b1 = false) (h2 : ptEq a0 a1 c0 c1 = false) (h3 : ptEq b0 b1 c0 c1 = false) (h4 : trn a0 a1 b0 b1 c0 c1 = 0) (w : World) :
    Calls Tryz.prog 71 #[.agg #[.int .i64 a0, .int .i64 a1], .agg #[.int .i64 b0, .int .i64 b1], .agg #[.int .i64 c0, .int .i64 c1]] w fun e w' => e = .returned (.bool (betwB a0 a1 b0 b1 c0 c1)) ∧ Ext w w' := by
  have HR : Hid (betwB a0 a1 b0 b1 c0 c1 = (inB c0 (min a0 b0) (max a0 b0) && inB c1 (min a1 b1) (max a1 b1))) := Lib.hid (by unfold betwB; rw [h, h1, h2, h3]; simp [h4])
  have hE := run_eqNode
  rcases Int.lt_trichotomy a0 b0 with g0 | g0 | g0 <;> rcases Int.lt_trichotomy a1 b1 with g1 | g1 | g1
  · rw [show min a0 b0 = a0 by omega, show max a0 b0 = b0 by omega, show min a1 b1 = a1 by omega, show max a1 b1 = b1 by omega] at HR
    cases e1 : inB c0 a0 b0 <;> rw [e1] at HR
    all_goals
      go_enter Tryz.func71, Tryz.ntmps71
      go_wp2_with (first | (go_at_call 53; refine (impl_nodesOk _ 3 _ (pts3 a0 a1 b0 b1 c0 c1) (by omega) _ (Recs.lit3 (by simp) ha0 ha1 hb0 hb1 hc0 hc1)).mono ?_; rintro e w2 ⟨rfl, x2⟩; rw [nodesB3]; have q00 := x2.cell (a := ⟨w.heap.size, 0, none⟩) (u := .int .i64 a0) (by simp [go_sem]); have q01 := x2.cell (a := ⟨w.heap.size, 1, none⟩) (u := .int .i64 a1) (by simp [go_sem]); have q10 := x2.cell (a := ⟨w.heap.size + 1, 0, none⟩) (u := .int .i64 b0) (by simp [go_sem]); have q11 := x2.cell (a := ⟨w.heap.size + 1, 1, none⟩) (u := .int .i64 b1) (by simp [go_sem]); have q20 := x2.cell (a := ⟨w.heap.size + 1 + 1, 0, none⟩) (u := .int .i64 c0) (by simp [go_sem]); have q21 := x2.cell (a := ⟨w.heap.size + 1 + 1, 1, none⟩) (u := .int .i64 c1) (by simp [go_sem]); have X2 := (Ext.refl w).alloc _ |>.alloc _ |>.alloc _ |>.alloc _ |>.trans x2; clear x2) | (go_at_call 72; refine (impl_TurnOf _ _ _ _ _ _ ha0 ha1 hb0 hb1 hc0 hc1 _).mono ?_; rintro e w3 ⟨rfl, x3⟩; rw [turnV_yes h]; replace q00 := x3.cell q00; replace q01 := x3.cell q01; replace q10 := x3.cell q10; replace q11 := x3.cell q11; replace q20 := x3.cell q20; replace q21 := x3.cell q21; replace X2 := X2.trans x3; clear x3) | (go_at_call 26; refine (within_any _ _ _ _).mono ?_; rintro e w4 ⟨rfl, x4⟩; replace q00 := x4.cell q00; replace q01 := x4.cell q01; replace q10 := x4.cell q10; replace q11 := x4.cell q11; replace q20 := x4.cell q20; replace q21 := x4.cell q21; replace X2 := X2.trans x4; clear x4))
      go_ret
      exact ⟨congrArg (fun z => Ending.returned (.bool z)) HR.out.symm, X2⟩
  · rw [show min a0 b0 = a0 by omega, show max a0 b0 = b0 by omega, show min a1 b1 = a1 by omega, show max a1 b1 = a1 by omega] at HR
    have l1 : ¬ a1 < b1 := by omega
    have u1 : ¬ b1 < a1 := by omega
    clear g1
    cases e1 : inB c0 a0 b0 <;> rw [e1] at HR
    all_goals
      go_enter Tryz.func71, Tryz.ntmps71
      go_wp2_with (first | (go_at_call 53; refine (impl_nodesOk _ 3 _ (pts3 a0 a1 b0 b1 c0 c1) (by omega) _ (Recs.lit3 (by simp) ha0 ha1 hb0 hb1 hc0 hc1)).mono ?_; rintro e w2 ⟨rfl, x2⟩; rw [nodesB3]; have q00 := x2.cell (a := ⟨w.heap.size, 0, none⟩) (u := .int .i64 a0) (by simp [go_sem]); have q01 := x2.cell (a := ⟨w.heap.size, 1, none⟩) (u := .int .i64 a1) (by simp [go_sem]); have q10 := x2.cell (a := ⟨w.heap.size + 1, 0, none⟩) (u := .int .i64 b0) (by simp [go_sem]); have q11 := x2.cell (a := ⟨w.heap.size + 1, 1, none⟩) (u := .int .i64 b1) (by simp [go_sem]); have q20 := x2.cell (a := ⟨w.heap.size + 1 + 1, 0, none⟩) (u := .int .i64 c0) (by simp [go_sem]); have q21 := x2.cell (a := ⟨w.heap.size + 1 + 1, 1, none⟩) (u := .int .i64 c1) (by simp [go_sem]); have X2 := (Ext.refl w).alloc _ |>.alloc _ |>.alloc _ |>.alloc _ |>.trans x2; clear x2) | (go_at_call 72; refine (impl_TurnOf _ _ _ _ _ _ ha0 ha1 hb0 hb1 hc0 hc1 _).mono ?_; rintro e w3 ⟨rfl, x3⟩; rw [turnV_yes h]; replace q00 := x3.cell q00; replace q01 := x3.cell q01; replace q10 := x3.cell q10; replace q11 := x3.cell q11; replace q20 := x3.cell q20; replace q21 := x3.cell q21; replace X2 := X2.trans x3; clear x3) | (go_at_call 26; refine (within_any _ _ _ _).mono ?_; rintro e w4 ⟨rfl, x4⟩; replace q00 := x4.cell q00; replace q01 := x4.cell q01; replace q10 := x4.cell q10; replace q11 := x4.cell q11; replace q20 := x4.cell q20; replace q21 := x4.cell q21; replace X2 := X2.trans x4; clear x4))
      go_ret
      exact ⟨congrArg (fun z => Ending.returned (.bool z)) HR.out.symm, X2⟩
  · rw [show min a0 b0 = a0 by omega, show max a0 b0 = b0 by omega, show min a1 b1 = b1 by omega, show max a1 b1 = a1 by omega] at HR
    cases e1 : inB c0 a0 b0 <;> rw [e1] at HR
    all_goals
      go_enter Tryz.func71, Tryz.ntmps71
      go_wp2_with (first | (go_at_call 53; refine (impl_nodesOk _ 3 _ (pts3 a0 a1 b0 b1 c0 c1) (by omega) _ (Recs.lit3 (by simp) ha0 ha1 hb0 hb1 hc0 hc1)).mono ?_; rintro e w2 ⟨rfl, x2⟩; rw [nodesB3]; have q00 := x2.cell (a := ⟨w.heap.size, 0, none⟩) (u := .int .i64 a0) (by simp [go_sem]); have q01 := x2.cell (a := ⟨w.heap.size, 1, none⟩) (u := .int .i64 a1) (by simp [go_sem]); have q10 := x2.cell (a := ⟨w.heap.size + 1, 0, none⟩) (u := .int .i64 b0) (by simp [go_sem]); have q11 := x2.cell (a := ⟨w.heap.size + 1, 1, none⟩) (u := .int .i64 b1) (by simp [go_sem]); have q20 := x2.cell (a := ⟨w.heap.size + 1 + 1, 0, none⟩) (u := .int .i64 c0) (by simp [go_sem]); have q21 := x2.cell (a := ⟨w.heap.size + 1 + 1, 1, none⟩) (u := .int .i64 c1) (by simp [go_sem]); have X2 := (Ext.refl w).alloc _ |>.alloc _ |>.alloc _ |>.alloc _ |>.trans x2; clear x2) | (go_at_call 72; refine (impl_TurnOf _ _ _ _ _ _ ha0 ha1 hb0 hb1 hc0 hc1 _).mono ?_; rintro e w3 ⟨rfl, x3⟩; rw [turnV_yes h]; replace q00 := x3.cell q00; replace q01 := x3.cell q01; replace q10 := x3.cell q10; replace q11 := x3.cell q11; replace q20 := x3.cell q20; replace q21 := x3.cell q21; replace X2 := X2.trans x3; clear x3) | (go_at_call 26; refine (within_any _ _ _ _).mono ?_; rintro e w4 ⟨rfl, x4⟩; replace q00 := x4.cell q00; replace q01 := x4.cell q01; replace q10 := x4.cell q10; replace q11 := x4.cell q11; replace q20 := x4.cell q20; replace q21 := x4.cell q21; replace X2 := X2.trans x4; clear x4))
      go_ret
      exact ⟨congrArg (fun z => Ending.returned (.bool z)) HR.out.symm, X2⟩
  · rw [show min a0 b0 = a0 by omega, show max a0 b0 = a0 by omega, show min a1 b1 = a1 by omega, show max a1 b1 = b1 by omega] at HR
    have l0 : ¬ a0 < b0 := by omega
    have u0 : ¬ b0 < a0 := by omega
    clear g0
    cases e1 : inB c0 a0 a0 <;> rw [e1] at HR
    all_goals
      go_enter Tryz.func71, Tryz.ntmps71
      go_wp2_with (first | (go_at_call 53; refine (impl_nodesOk _ 3 _ (pts3 a0 a1 b0 b1 c0 c1) (by omega) _ (Recs.lit3 (by simp) ha0 ha1 hb0 hb1 hc0 hc1)).mono ?_; rintro e w2 ⟨rfl, x2⟩; rw [nodesB3]; have q00 := x2.cell (a := ⟨w.heap.size, 0, none⟩) (u := .int .i64 a0) (by simp [go_sem]); have q01 := x2.cell (a := ⟨w.heap.size, 1, none⟩) (u := .int .i64 a1) (by simp [go_sem]); have q10 := x2.cell (a := ⟨w.heap.size + 1, 0, none⟩) (u := .int .i64 b0) (by simp [go_sem]); have q11 := x2.cell (a := ⟨w.heap.size + 1, 1, none⟩) (u := .int .i64 b1) (by simp [go_sem]); have q20 := x2.cell (a := ⟨w.heap.size + 1 + 1, 0, none⟩) (u := .int .i64 c0) (by simp [go_sem]); have q21 := x2.cell (a := ⟨w.heap.size + 1 + 1, 1, none⟩) (u := .int .i64 c1) (by simp [go_sem]); have X2 := (Ext.refl w).alloc _ |>.alloc _ |>.alloc _ |>.alloc _ |>.trans x2; clear x2) | (go_at_call 72; refine (impl_TurnOf _ _ _ _ _ _ ha0 ha1 hb0 hb1 hc0 hc1 _).mono ?_; rintro e w3 ⟨rfl, x3⟩; rw [turnV_yes h]; replace q00 := x3.cell q00; replace q01 := x3.cell q01; replace q10 := x3.cell q10; replace q11 := x3.cell q11; replace q20 := x3.cell q20; replace q21 := x3.cell q21; replace X2 := X2.trans x3; clear x3) | (go_at_call 26; refine (within_any _ _ _ _).mono ?_; rintro e w4 ⟨rfl, x4⟩; replace q00 := x4.cell q00; replace q01 := x4.cell q01; replace q10 := x4.cell q10; replace q11 := x4.cell q11; replace q20 := x4.cell q20; replace q21 := x4.cell q21; replace X2 := X2.trans x4; clear x4))
      go_ret
      exact ⟨congrArg (fun z => Ending.returned (.bool z)) HR.out.symm, X2⟩
  · rw [show min a0 b0 = a0 by omega, show max a0 b0 = a0 by omega, show min a1 b1 = a1 by omega, show max a1 b1 = a1 by omega] at HR
    have l0 : ¬ a0 < b0 := by omega
    have u0 : ¬ b0 < a0 := by omega
    clear g0
    have l1 : ¬ a1 < b1 := by omega
    have u1 : ¬ b1 < a1 := by omega
    clear g1
    cases e1 : inB c0 a0 a0 <;> rw [e1] at HR
    all_goals
      go_enter Tryz.func71, Tryz.ntmps71
      go_wp2_with (first | (go_at_call 53; refine (impl_nodesOk _ 3 _ (pts3 a0 a1 b0 b1 c0 c1) (by omega) _ (Recs.lit3 (by simp) ha0 ha1 hb0 hb1 hc0 hc1)).mono ?_; rintro e w2 ⟨rfl, x2⟩; rw [nodesB3]; have q00 := x2.cell (a := ⟨w.heap.size, 0, none⟩) (u := .int .i64 a0) (by simp [go_sem]); have q01 := x2.cell (a := ⟨w.heap.size, 1, none⟩) (u := .int .i64 a1) (by simp [go_sem]); have q10 := x2.cell (a := ⟨w.heap.size + 1, 0, none⟩) (u := .int .i64 b0) (by simp [go_sem]); have q11 := x2.cell (a := ⟨w.heap.size + 1, 1, none⟩) (u := .int .i64 b1) (by simp [go_sem]); have q20 := x2.cell (a := ⟨w.heap.size + 1 + 1, 0, none⟩) (u := .int .i64 c0) (by simp [go_sem]); have q21 := x2.cell (a := ⟨w.heap.size + 1 + 1, 1, none⟩) (u := .int .i64 c1) (by simp [go_sem]); have X2 := (Ext.refl w).alloc _ |>.alloc _ |>.alloc _ |>.alloc _ |>.trans x2; clear x2) | (go_at_call 72; refine (impl_TurnOf _ _ _ _ _ _ ha0 ha1 hb0 hb1 hc0 hc1 _).mono ?_; rintro e w3 ⟨rfl, x3⟩; rw [turnV_yes h]; replace q00 := x3.cell q00; replace q01 := x3.cell q01; replace q10 := x3.cell q10; replace q11 := x3.cell q11; replace q20 := x3.cell q20; replace q21 := x3.cell q21; replace X2 := X2.trans x3; clear x3) | (go_at_call 26; refine (within_any _ _ _ _).mono ?_; rintro e w4 ⟨rfl, x4⟩; replace q00 := x4.cell q00; replace q01 := x4.cell q01; replace q10 := x4.cell q10; replace q11 := x4.cell q11; replace q20 := x4.cell q20; replace q21 := x4.cell q21; replace X2 := X2.trans x4; clear x4))
      go_ret
      exact ⟨congrArg (fun z => Ending.returned (.bool z)) HR.out.symm, X2⟩
  · rw [show min a0 b0 = a0 by omega, show max a0 b0 = a0 by omega, show min a1 b1 = b1 by omega, show max a1 b1 = a1 by omega] at HR
    have l0 : ¬ a0 < b0 := by omega
    have u0 : ¬ b0 < a0 := by omega
    clear g0
    cases e1 : inB c0 a0 a0 <;> rw [e1] at HR
    all_goals
      go_enter Tryz.func71, Tryz.ntmps71
      go_wp2_with (first | (go_at_call 53; refine (impl_nodesOk _ 3 _ (pts3 a0 a1 b0 b1 c0 c1) (by omega) _ (Recs.lit3 (by simp) ha0 ha1 hb0 hb1 hc0 hc1)).mono ?_; rintro e w2 ⟨rfl, x2⟩; rw [nodesB3]; have q00 := x2.cell (a := ⟨w.heap.size, 0, none⟩) (u := .int .i64 a0) (by simp [go_sem]); have q01 := x2.cell (a := ⟨w.heap.size, 1, none⟩) (u := .int .i64 a1) (by simp [go_sem]); have q10 := x2.cell (a := ⟨w.heap.size + 1, 0, none⟩) (u := .int .i64 b0) (by simp [go_sem]); have q11 := x2.cell (a := ⟨w.heap.size + 1, 1, none⟩) (u := .int .i64 b1) (by simp [go_sem]); have q20 := x2.cell (a := ⟨w.heap.size + 1 + 1, 0, none⟩) (u := .int .i64 c0) (by simp [go_sem]); have q21 := x2.cell (a := ⟨w.heap.size + 1 + 1, 1, none⟩) (u := .int .i64 c1) (by simp [go_sem]); have X2 := (Ext.refl w).alloc _ |>.alloc _ |>.alloc _ |>.alloc _ |>.trans x2; clear x2) | (go_at_call 72; refine (impl_TurnOf _ _ _ _ _ _ ha0 ha1 hb0 hb1 hc0 hc1 _).mono ?_; rintro e w3 ⟨rfl, x3⟩; rw [turnV_yes h]; replace q00 := x3.cell q00; replace q01 := x3.cell q01; replace q10 := x3.cell q10; replace q11 := x3.cell q11; replace q20 := x3.cell q20; replace q21 := x3.cell q21; replace X2 := X2.trans x3; clear x3) | (go_at_call 26; refine (within_any _ _ _ _).mono ?_; rintro e w4 ⟨rfl, x4⟩; replace q00 := x4.cell q00; replace q01 := x4.cell q01; replace q10 := x4.cell q10; replace q11 := x4.cell q11; replace q20 := x4.cell q20; replace q21 := x4.cell q21; replace X2 := X2.trans x4; clear x4))
      go_ret
      exact ⟨congrArg (fun z => Ending.returned (.bool z)) HR.out.symm, X2⟩
  · rw [show min a0 b0 = b0 by omega, show max a0 b0 = a0 by omega, show min a1 b1 = a1 by omega, show max a1 b1 = b1 by omega] at HR
    cases e1 : inB c0 b0 a0 <;> rw [e1] at HR
    all_goals
      go_enter Tryz.func71, Tryz.ntmps71
      go_wp2_with (first | (go_at_call 53; refine (impl_nodesOk _ 3 _ (pts3 a0 a1 b0 b1 c0 c1) (by omega) _ (Recs.lit3 (by simp) ha0 ha1 hb0 hb1 hc0 hc1)).mono ?_; rintro e w2 ⟨rfl, x2⟩; rw [nodesB3]; have q00 := x2.cell (a := ⟨w.heap.size, 0, none⟩) (u := .int .i64 a0) (by simp [go_sem]); have q01 := x2.cell (a := ⟨w.heap.size, 1, none⟩) (u := .int .i64 a1) (by simp [go_sem]); have q10 := x2.cell (a := ⟨w.heap.size + 1, 0, none⟩) (u := .int .i64 b0) (by simp [go_sem]); have q11 := x2.cell (a := ⟨w.heap.size + 1, 1, none⟩) (u := .int .i64 b1) (by simp [go_sem]); have q20 := x2.cell (a := ⟨w.heap.size + 1 + 1, 0, none⟩) (u := .int .i64 c0) (by simp [go_sem]); have q21 := x2.cell (a := ⟨w.heap.size + 1 + 1, 1, none⟩) (u := .int .i64 c1) (by simp [go_sem]); have X2 := (Ext.refl w).alloc _ |>.alloc _ |>.alloc _ |>.alloc _ |>.trans x2; clear x2) | (go_at_call 72; refine (impl_TurnOf _ _ _ _ _ _ ha0 ha1 hb0 hb1 hc0 hc1 _).mono ?_; rintro e w3 ⟨rfl, x3⟩; rw [turnV_yes h]; replace q00 := x3.cell q00; replace q01 := x3.cell q01; replace q10 := x3.cell q10; replace q11 := x3.cell q11; replace q20 := x3.cell q20; replace q21 := x3.cell q21; replace X2 := X2.trans x3; clear x3) | (go_at_call 26; refine (within_any _ _ _ _).mono ?_; rintro e w4 ⟨rfl, x4⟩; replace q00 := x4.cell q00; replace q01 := x4.cell q01; replace q10 := x4.cell q10; replace q11 := x4.cell q11; replace q20 := x4.cell q20; replace q21 := x4.cell q21; replace X2 := X2.trans x4; clear x4))
      go_ret
      exact ⟨congrArg (fun z => Ending.returned (.bool z)) HR.out.symm, X2⟩
  · rw [show min a0 b0 = b0 by omega, show max a0 b0 = a0 by omega, show min a1 b1 = a1 by omega, show max a1 b1 = a1 by omega] at HR
    have l1 : ¬ a1 < b1 := by omega
    have u1 : ¬ b1 < a1 := by omega
    clear g1
    cases e1 : inB c0 b0 a0 <;> rw [e1] at HR
    all_goals
      go_enter Tryz.func71, Tryz.ntmps71
      go_wp2_with (first | (go_at_call 53; refine (impl_nodesOk _ 3 _ (pts3 a0 a1 b0 b1 c0 c1) (by omega) _ (Recs.lit3 (by simp) ha0 ha1 hb0 hb1 hc0 hc1)).mono ?_; rintro e w2 ⟨rfl, x2⟩; rw [nodesB3]; have q00 := x2.cell (a := ⟨w.heap.size, 0, none⟩) (u := .int .i64 a0) (by simp [go_sem]); have q01 := x2.cell (a := ⟨w.heap.size, 1, none⟩) (u := .int .i64 a1) (by simp [go_sem]); have q10 := x2.cell (a := ⟨w.heap.size + 1, 0, none⟩) (u := .int .i64 b0) (by simp [go_sem]); have q11 := x2.cell (a := ⟨w.heap.size + 1, 1, none⟩) (u := .int .i64 b1) (by simp [go_sem]); have q20 := x2.cell (a := ⟨w.heap.size + 1 + 1, 0, none⟩) (u := .int .i64 c0) (by simp [go_sem]); have q21 := x2.cell (a := ⟨w.heap.size + 1 + 1, 1, none⟩) (u := .int .i64 c1) (by simp [go_sem]); have X2 := (Ext.refl w).alloc _ |>.alloc _ |>.alloc _ |>.alloc _ |>.trans x2; clear x2) | (go_at_call 72; refine (impl_TurnOf _ _ _ _ _ _ ha0 ha1 hb0 hb1 hc0 hc1 _).mono ?_; rintro e w3 ⟨rfl, x3⟩; rw [turnV_yes h]; replace q00 := x3.cell q00; replace q01 := x3.cell q01; replace q10 := x3.cell q10; replace q11 := x3.cell q11; replace q20 := x3.cell q20; replace q21 := x3.cell q21; replace X2 := X2.trans x3; clear x3) | (go_at_call 26; refine (within_any _ _ _ _).mono ?_; rintro e w4 ⟨rfl, x4⟩; replace q00 := x4.cell q00; replace q01 := x4.cell q01; replace q10 := x4.cell q10; replace q11 := x4.cell q11; replace q20 := x4.cell q20; replace q21 := x4.cell q21; replace X2 := X2.trans x4; clear x4))
      go_ret
      exact ⟨congrArg (fun z => Ending.returned (.bool z)) HR.out.symm, X2⟩
  · rw [show min a0 b0 = b0 by omega, show max a0 b0 = a0 by omega, show min a1 b1 = b1 by omega, show max a1 b1 = a1 by omega] at HR
    cases e1 : inB c0 b0 a0 <;> rw [e1] at HR
    all_goals
      go_enter Tryz.func71, Tryz.ntmps71
      go_wp2_with (first | (go_at_call 53; refine (impl_nodesOk _ 3 _ (pts3 a0 a1 b0 b1 c0 c1) (by omega) _ (Recs.lit3 (by simp) ha0 ha1 hb0 hb1 hc0 hc1)).mono ?_; rintro e w2 ⟨rfl, x2⟩; rw [nodesB3]; have q00 := x2.cell (a := ⟨w.heap.size, 0, none⟩) (u := .int .i64 a0) (by simp [go_sem]); have q01 := x2.cell (a := ⟨w.heap.size, 1, none⟩) (u := .int .i64 a1) (by simp [go_sem]); have q10 := x2.cell (a := ⟨w.heap.size + 1, 0, none⟩) (u := .int .i64 b0) (by simp [go_sem]); have q11 := x2.cell (a := ⟨w.heap.size + 1, 1, none⟩) (u := .int .i64 b1) (by simp [go_sem]); have q20 := x2.cell (a := ⟨w.heap.size + 1 + 1, 0, none⟩) (u := .int .i64 c0) (by simp [go_sem]); have q21 := x2.cell (a := ⟨w.heap.size + 1 + 1, 1, none⟩) (u := .int .i64 c1) (by simp [go_sem]); have X2 := (Ext.refl w).alloc _ |>.alloc _ |>.alloc _ |>.alloc _ |>.trans x2; clear x2) | (go_at_call 72; refine (impl_TurnOf _ _ _ _ _ _ ha0 ha1 hb0 hb1 hc0 hc1 _).mono ?_; rintro e w3 ⟨rfl, x3⟩; rw [turnV_yes h]; replace q00 := x3.cell q00; replace q01 := x3.cell q01; replace q10 := x3.cell q10; replace q11 := x3.cell q11; replace q20 := x3.cell q20; replace q21 := x3.cell q21; replace X2 := X2.trans x3; clear x3) | (go_at_call 26; refine (within_any _ _ _ _).mono ?_; rintro e w4 ⟨rfl, x4⟩; replace q00 := x4.cell q00; replace q01 := x4.cell q01; replace q10 := x4.cell q10; replace q11 := x4.cell q11; replace q20 := x4.cell q20; replace q21 := x4.cell q21; replace X2 := X2.trans x4; clear x4))
      go_ret
      exact ⟨congrArg (fun z => Ending.returned (.bool z)) HR.out.symm, X2⟩

end Go.Proofs.YtgmhmlhdiklaaaaGreatDoor
