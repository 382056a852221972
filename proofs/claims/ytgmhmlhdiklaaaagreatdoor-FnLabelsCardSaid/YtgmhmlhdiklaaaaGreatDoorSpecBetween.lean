/-
  Contracts of the reference's test whether a node lies between two others. No conditions.
-/
import Derived.Test.YtgmhmlhdiklaaaaGreatDoorBetween
namespace Go.Proofs.YtgmhmlhdiklaaaaGreatDoor
open Go.RowKit
set_option linter.unusedVariables false

set_option maxHeartbeats 2000000 in
theorem spec_IsBetween_na (a0 a1 b0 b1 c0 c1 : Int) (ha0 : I64 a0) (ha1 : I64 a1) (hb0 : I64 b0) (hb1 : I64 b1) (hc0 : I64 c0) (hc1 : I64 c1) (ha : nodeB a0 a1 = false) (w : World) :
    Calls Tryz.prog 75 #[.agg #[.int .i64 a0, .int .i64 a1], .agg #[.int .i64 b0, .int .i64 b1], .agg #[.int .i64 c0, .int .i64 c1]] w fun e w' => e = .returned (.bool (betwB a0 a1 b0 b1 c0 c1)) ∧ Ext w w' := by
  have HR : Hid (betwB a0 a1 b0 b1 c0 c1 = false) := Lib.hid (by unfold betwB; rw [ha]; rfl)
  have hE := run_eqNode
  go_enter Tryz.func75, Tryz.ntmps75
  go_wp2_with (first | (go_at_call 63; refine (spec_NodeOk _ _ _).mono ?_; rintro e w2 ⟨rfl, x2⟩; have q00 := x2.cell (a := ⟨w.heap.size, 0, none⟩) (u := .int .i64 a0) (by simp [go_sem]); have q01 := x2.cell (a := ⟨w.heap.size, 1, none⟩) (u := .int .i64 a1) (by simp [go_sem]); have q10 := x2.cell (a := ⟨w.heap.size + 1, 0, none⟩) (u := .int .i64 b0) (by simp [go_sem]); have q11 := x2.cell (a := ⟨w.heap.size + 1, 1, none⟩) (u := .int .i64 b1) (by simp [go_sem]); have q20 := x2.cell (a := ⟨w.heap.size + 1 + 1, 0, none⟩) (u := .int .i64 c0) (by simp [go_sem]); have q21 := x2.cell (a := ⟨w.heap.size + 1 + 1, 1, none⟩) (u := .int .i64 c1) (by simp [go_sem]); have X2 := (Ext.refl w).alloc _ |>.alloc _ |>.alloc _ |>.trans x2; clear x2) | (go_at_call 63; refine (spec_NodeOk _ _ _).mono ?_; rintro e w3 ⟨rfl, x3⟩; replace q00 := x3.cell q00; replace q01 := x3.cell q01; replace q10 := x3.cell q10; replace q11 := x3.cell q11; replace q20 := x3.cell q20; replace q21 := x3.cell q21; replace X2 := X2.trans x3; clear x3))
  go_ret
  exact ⟨congrArg (fun z => Ending.returned (.bool z)) HR.out.symm, X2⟩

set_option maxHeartbeats 2000000 in
theorem spec_IsBetween_nb (a0 a1 b0 b1 c0 c1 : Int) (ha0 : I64 a0) (ha1 : I64 a1) (hb0 : I64 b0) (hb1 : I64 b1) (hc0 : I64 c0) (hc1 : I64 c1) (ha : nodeB a0 a1 = true)(hb : nodeB b0 b1 = false) (w : World) :
    Calls Tryz.prog 75 #[.agg #[.int .i64 a0, .int .i64 a1], .agg #[.int .i64 b0, .int .i64 b1], .agg #[.int .i64 c0, .int .i64 c1]] w fun e w' => e = .returned (.bool (betwB a0 a1 b0 b1 c0 c1)) ∧ Ext w w' := by
  have HR : Hid (betwB a0 a1 b0 b1 c0 c1 = false) := Lib.hid (by unfold betwB; rw [ha, hb]; rfl)
  have hE := run_eqNode
  go_enter Tryz.func75, Tryz.ntmps75
  go_wp2_with (first | (go_at_call 63; refine (spec_NodeOk _ _ _).mono ?_; rintro e w2 ⟨rfl, x2⟩; have q00 := x2.cell (a := ⟨w.heap.size, 0, none⟩) (u := .int .i64 a0) (by simp [go_sem]); have q01 := x2.cell (a := ⟨w.heap.size, 1, none⟩) (u := .int .i64 a1) (by simp [go_sem]); have q10 := x2.cell (a := ⟨w.heap.size + 1, 0, none⟩) (u := .int .i64 b0) (by simp [go_sem]); have q11 := x2.cell (a := ⟨w.heap.size + 1, 1, none⟩) (u := .int .i64 b1) (by simp [go_sem]); have q20 := x2.cell (a := ⟨w.heap.size + 1 + 1, 0, none⟩) (u := .int .i64 c0) (by simp [go_sem]); have q21 := x2.cell (a := ⟨w.heap.size + 1 + 1, 1, none⟩) (u := .int .i64 c1) (by simp [go_sem]); have X2 := (Ext.refl w).alloc _ |>.alloc _ |>.alloc _ |>.trans x2; clear x2) | (go_at_call 63; refine (spec_NodeOk _ _ _).mono ?_; rintro e w3 ⟨rfl, x3⟩; replace q00 := x3.cell q00; replace q01 := x3.cell q01; replace q10 := x3.cell q10; replace q11 := x3.cell q11; replace q20 := x3.cell q20; replace q21 := x3.cell q21; replace X2 := X2.trans x3; clear x3))
  go_ret
  exact ⟨congrArg (fun z => Ending.returned (.bool z)) HR.out.symm, X2⟩

set_option maxHeartbeats 2000000 in
theorem spec_IsBetween_nc (a0 a1 b0 b1 c0 c1 : Int) (ha0 : I64 a0) (ha1 : I64 a1) (hb0 : I64 b0) (hb1 : I64 b1) (hc0 : I64 c0) (hc1 : I64 c1) (ha : nodeB a0 a1 = true)(hb : nodeB b0 b1 = true)(hc : nodeB c0 c1 = false) (w : World) :
    Calls Tryz.prog 75 #[.agg #[.int .i64 a0, .int .i64 a1], .agg #[.int .i64 b0, .int .i64 b1], .agg #[.int .i64 c0, .int .i64 c1]] w fun e w' => e = .returned (.bool (betwB a0 a1 b0 b1 c0 c1)) ∧ Ext w w' := by
  have HR : Hid (betwB a0 a1 b0 b1 c0 c1 = false) := Lib.hid (by unfold betwB; rw [ha, hb, hc]; rfl)
  have hE := run_eqNode
  go_enter Tryz.func75, Tryz.ntmps75
  go_wp2_with (first | (go_at_call 63; refine (spec_NodeOk _ _ _).mono ?_; rintro e w2 ⟨rfl, x2⟩; have q00 := x2.cell (a := ⟨w.heap.size, 0, none⟩) (u := .int .i64 a0) (by simp [go_sem]); have q01 := x2.cell (a := ⟨w.heap.size, 1, none⟩) (u := .int .i64 a1) (by simp [go_sem]); have q10 := x2.cell (a := ⟨w.heap.size + 1, 0, none⟩) (u := .int .i64 b0) (by simp [go_sem]); have q11 := x2.cell (a := ⟨w.heap.size + 1, 1, none⟩) (u := .int .i64 b1) (by simp [go_sem]); have q20 := x2.cell (a := ⟨w.heap.size + 1 + 1, 0, none⟩) (u := .int .i64 c0) (by simp [go_sem]); have q21 := x2.cell (a := ⟨w.heap.size + 1 + 1, 1, none⟩) (u := .int .i64 c1) (by simp [go_sem]); have X2 := (Ext.refl w).alloc _ |>.alloc _ |>.alloc _ |>.trans x2; clear x2) | (go_at_call 63; refine (spec_NodeOk _ _ _).mono ?_; rintro e w3 ⟨rfl, x3⟩; replace q00 := x3.cell q00; replace q01 := x3.cell q01; replace q10 := x3.cell q10; replace q11 := x3.cell q11; replace q20 := x3.cell q20; replace q21 := x3.cell q21; replace X2 := X2.trans x3; clear x3))
  go_ret
  exact ⟨congrArg (fun z => Ending.returned (.bool z)) HR.out.symm, X2⟩

set_option maxHeartbeats 2000000 in
theorem spec_IsBetween_e1 (a0 a1 b0 b1 c0 c1 : Int) (ha0 : I64 a0) (ha1 : I64 a1) (hb0 : I64 b0) (hb1 : I64 b1) (hc0 : I64 c0) (hc1 : I64 c1) (ha : nodeB a0 a1 = true)(hb : nodeB b0 b1 = true)(hc : nodeB c0 c1 = true)(h1 : ptEq a0 a1 b0 b1 = true) (w : World) :
    Calls Tryz.prog 75 #[.agg #[.int .i64 a0, .int .i64 a1], .agg #[.int .i64 b0, .int .i64 b1], .agg #[.int .i64 c0, .int .i64 c1]] w fun e w' => e = .returned (.bool (betwB a0 a1 b0 b1 c0 c1)) ∧ Ext w w' := by
  have HR : Hid (betwB a0 a1 b0 b1 c0 c1 = false) := Lib.hid (by unfold betwB; rw [ha, hb, hc, h1]; rfl)
  have hE := run_eqNode
  go_enter Tryz.func75, Tryz.ntmps75
  go_wp2_with (first | (go_at_call 63; refine (spec_NodeOk _ _ _).mono ?_; rintro e w2 ⟨rfl, x2⟩; have q00 := x2.cell (a := ⟨w.heap.size, 0, none⟩) (u := .int .i64 a0) (by simp [go_sem]); have q01 := x2.cell (a := ⟨w.heap.size, 1, none⟩) (u := .int .i64 a1) (by simp [go_sem]); have q10 := x2.cell (a := ⟨w.heap.size + 1, 0, none⟩) (u := .int .i64 b0) (by simp [go_sem]); have q11 := x2.cell (a := ⟨w.heap.size + 1, 1, none⟩) (u := .int .i64 b1) (by simp [go_sem]); have q20 := x2.cell (a := ⟨w.heap.size + 1 + 1, 0, none⟩) (u := .int .i64 c0) (by simp [go_sem]); have q21 := x2.cell (a := ⟨w.heap.size + 1 + 1, 1, none⟩) (u := .int .i64 c1) (by simp [go_sem]); have X2 := (Ext.refl w).alloc _ |>.alloc _ |>.alloc _ |>.trans x2; clear x2) | (go_at_call 63; refine (spec_NodeOk _ _ _).mono ?_; rintro e w3 ⟨rfl, x3⟩; replace q00 := x3.cell q00; replace q01 := x3.cell q01; replace q10 := x3.cell q10; replace q11 := x3.cell q11; replace q20 := x3.cell q20; replace q21 := x3.cell q21; replace X2 := X2.trans x3; clear x3))
  go_ret
  exact ⟨congrArg (fun z => Ending.returned (.bool z)) HR.out.symm, X2⟩

set_option maxHeartbeats 2000000 in
theorem spec_IsBetween_e2 (a0 a1 b0 b1 c0 c1 : Int) (ha0 : I64 a0) (ha1 : I64 a1) (hb0 : I64 b0) (hb1 : I64 b1) (hc0 : I64 c0) (hc1 : I64 c1) (ha : nodeB a0 a1 = true)(hb : nodeB b0 b1 = true)(hc : nodeB c0 c1 = true)(h1 : ptEq a0 a1 b0 b1 = false)(h3 : ptEq b0 b1 c0 c1 = true) (w : World) :
    Calls Tryz.prog 75 #[.agg #[.int .i64 a0, .int .i64 a1], .agg #[.int .i64 b0, .int .i64 b1], .agg #[.int .i64 c0, .int .i64 c1]] w fun e w' => e = .returned (.bool (betwB a0 a1 b0 b1 c0 c1)) ∧ Ext w w' := by
  have HR : Hid (betwB a0 a1 b0 b1 c0 c1 = false) := Lib.hid (by unfold betwB; rw [ha, hb, hc, h1, h3]; simp)
  have hE := run_eqNode
  go_enter Tryz.func75, Tryz.ntmps75
  go_wp2_with (first | (go_at_call 63; refine (spec_NodeOk _ _ _).mono ?_; rintro e w2 ⟨rfl, x2⟩; have q00 := x2.cell (a := ⟨w.heap.size, 0, none⟩) (u := .int .i64 a0) (by simp [go_sem]); have q01 := x2.cell (a := ⟨w.heap.size, 1, none⟩) (u := .int .i64 a1) (by simp [go_sem]); have q10 := x2.cell (a := ⟨w.heap.size + 1, 0, none⟩) (u := .int .i64 b0) (by simp [go_sem]); have q11 := x2.cell (a := ⟨w.heap.size + 1, 1, none⟩) (u := .int .i64 b1) (by simp [go_sem]); have q20 := x2.cell (a := ⟨w.heap.size + 1 + 1, 0, none⟩) (u := .int .i64 c0) (by simp [go_sem]); have q21 := x2.cell (a := ⟨w.heap.size + 1 + 1, 1, none⟩) (u := .int .i64 c1) (by simp [go_sem]); have X2 := (Ext.refl w).alloc _ |>.alloc _ |>.alloc _ |>.trans x2; clear x2) | (go_at_call 63; refine (spec_NodeOk _ _ _).mono ?_; rintro e w3 ⟨rfl, x3⟩; replace q00 := x3.cell q00; replace q01 := x3.cell q01; replace q10 := x3.cell q10; replace q11 := x3.cell q11; replace q20 := x3.cell q20; replace q21 := x3.cell q21; replace X2 := X2.trans x3; clear x3))
  go_ret
  exact ⟨congrArg (fun z => Ending.returned (.bool z)) HR.out.symm, X2⟩

set_option maxHeartbeats 2000000 in
theorem spec_IsBetween_e3 (a0 a1 b0 b1 c0 c1 : Int) (ha0 : I64 a0) (ha1 : I64 a1) (hb0 : I64 b0) (hb1 : I64 b1) (hc0 : I64 c0) (hc1 : I64 c1) (ha : nodeB a0 a1 = true)(hb : nodeB b0 b1 = true)(hc : nodeB c0 c1 = true)(h1 : ptEq a0 a1 b0 b1 = false)(h3 : ptEq b0 b1 c0 c1 = false)(h2 : ptEq a0 a1 c0 c1 = true) (w : World) :
    Calls Tryz.prog 75 #[.agg #[.int .i64 a0, .int .i64 a1], .agg #[.int .i64 b0, .int .i64 b1], .agg #[.int .i64 c0, .int .i64 c1]] w fun e w' => e = .returned (.bool (betwB a0 a1 b0 b1 c0 c1)) ∧ Ext w w' := by
  have HR : Hid (betwB a0 a1 b0 b1 c0 c1 = false) := Lib.hid (by unfold betwB; rw [ha, hb, hc, h1, h3, h2]; rfl)
  have hE := run_eqNode
  go_enter Tryz.func75, Tryz.ntmps75
  go_wp2_with (first | (go_at_call 63; refine (spec_NodeOk _ _ _).mono ?_; rintro e w2 ⟨rfl, x2⟩; have q00 := x2.cell (a := ⟨w.heap.size, 0, none⟩) (u := .int .i64 a0) (by simp [go_sem]); have q01 := x2.cell (a := ⟨w.heap.size, 1, none⟩) (u := .int .i64 a1) (by simp [go_sem]); have q10 := x2.cell (a := ⟨w.heap.size + 1, 0, none⟩) (u := .int .i64 b0) (by simp [go_sem]); have q11 := x2.cell (a := ⟨w.heap.size + 1, 1, none⟩) (u := .int .i64 b1) (by simp [go_sem]); have q20 := x2.cell (a := ⟨w.heap.size + 1 + 1, 0, none⟩) (u := .int .i64 c0) (by simp [go_sem]); have q21 := x2.cell (a := ⟨w.heap.size + 1 + 1, 1, none⟩) (u := .int .i64 c1) (by simp [go_sem]); have X2 := (Ext.refl w).alloc _ |>.alloc _ |>.alloc _ |>.trans x2; clear x2) | (go_at_call 63; refine (spec_NodeOk _ _ _).mono ?_; rintro e w3 ⟨rfl, x3⟩; replace q00 := x3.cell q00; replace q01 := x3.cell q01; replace q10 := x3.cell q10; replace q11 := x3.cell q11; replace q20 := x3.cell q20; replace q21 := x3.cell q21; replace X2 := X2.trans x3; clear x3))
  go_ret
  exact ⟨congrArg (fun z => Ending.returned (.bool z)) HR.out.symm, X2⟩

set_option maxHeartbeats 2000000 in
theorem spec_IsBetween_tn (a0 a1 b0 b1 c0 c1 : Int) (ha0 : I64 a0) (ha1 : I64 a1) (hb0 : I64 b0) (hb1 : I64 b1) (hc0 : I64 c0) (hc1 : I64 c1) (ha : nodeB a0 a1 = true)(hb : nodeB b0 b1 = true)(hc : nodeB c0 c1 = true)(h1 : ptEq a0 a1 b0 b1 = false)(h3 : ptEq b0 b1 c0 c1 = false)(h2 : ptEq a0 a1 c0 c1 = false)(h4 : trn a0 a1 b0 b1 c0 c1 ≠ 0) (w : World) :
    Calls Tryz.prog 75 #[.agg #[.int .i64 a0, .int .i64 a1], .agg #[.int .i64 b0, .int .i64 b1], .agg #[.int .i64 c0, .int .i64 c1]] w fun e w' => e = .returned (.bool (betwB a0 a1 b0 b1 c0 c1)) ∧ Ext w w' := by
  have HR : Hid (betwB a0 a1 b0 b1 c0 c1 = false) := Lib.hid (by unfold betwB; rw [ha, hb, hc, h1, h2, h3]; simp [h4])
  have hE := run_eqNode
  have k1 : (trn a0 a1 b0 b1 c0 c1 != 0) = true := by simpa using h4
  clear h4
  go_enter Tryz.func75, Tryz.ntmps75
  go_wp2_with (first | (go_at_call 63; refine (spec_NodeOk _ _ _).mono ?_; rintro e w2 ⟨rfl, x2⟩; have q00 := x2.cell (a := ⟨w.heap.size, 0, none⟩) (u := .int .i64 a0) (by simp [go_sem]); have q01 := x2.cell (a := ⟨w.heap.size, 1, none⟩) (u := .int .i64 a1) (by simp [go_sem]); have q10 := x2.cell (a := ⟨w.heap.size + 1, 0, none⟩) (u := .int .i64 b0) (by simp [go_sem]); have q11 := x2.cell (a := ⟨w.heap.size + 1, 1, none⟩) (u := .int .i64 b1) (by simp [go_sem]); have q20 := x2.cell (a := ⟨w.heap.size + 1 + 1, 0, none⟩) (u := .int .i64 c0) (by simp [go_sem]); have q21 := x2.cell (a := ⟨w.heap.size + 1 + 1, 1, none⟩) (u := .int .i64 c1) (by simp [go_sem]); have X2 := (Ext.refl w).alloc _ |>.alloc _ |>.alloc _ |>.trans x2; clear x2) | (go_at_call 63; refine (spec_NodeOk _ _ _).mono ?_; rintro e w3 ⟨rfl, x3⟩; replace q00 := x3.cell q00; replace q01 := x3.cell q01; replace q10 := x3.cell q10; replace q11 := x3.cell q11; replace q20 := x3.cell q20; replace q21 := x3.cell q21; replace X2 := X2.trans x3; clear x3) | (go_at_call 77; refine (spec_l02Turn _ _ _ _ _ _ ha hb hc _).mono ?_; rintro e w4 ⟨rfl, x4⟩; replace q00 := x4.cell q00; replace q01 := x4.cell q01; replace q10 := x4.cell q10; replace q11 := x4.cell q11; replace q20 := x4.cell q20; replace q21 := x4.cell q21; replace X2 := X2.trans x4; clear x4))
  go_ret
  exact ⟨congrArg (fun z => Ending.returned (.bool z)) HR.out.symm, X2⟩

set_option maxHeartbeats 8000000 in
theorem spec_IsBetween_in (a0 a1 b0 b1 c0 c1 : Int) (ha0 : I64 a0) (ha1 : I64 a1) (hb0 : I64 b0) (hb1 : I64 b1) (hc0 : I64 c0) (hc1 : I64 c1) (ha : nodeB a0 a1 = true)(hb : nodeB b0 b1 = true)(hc : nodeB c0 c1 = true) (h1 : ptEq a0 a1 b0 b1 = false) (h2 : ptEq a0 a1 c0 c1 = false) (h3 : ptEq b0 b1 c0 c1 = false) (h4 : trn a0 a1 b0 b1 c0 c1 = 0) (w : World) :
    Calls Tryz.prog 75 #[.agg #[.int .i64 a0, .int .i64 a1], .agg #[.int .i64 b0, .int .i64 b1], .agg #[.int .i64 c0, .int .i64 c1]] w fun e w' => e = .returned (.bool (betwB a0 a1 b0 b1 c0 c1)) ∧ Ext w w' := by
  have HR : Hid (betwB a0 a1 b0 b1 c0 c1 = (inB c0 (min a0 b0) (max a0 b0) && inB c1 (min a1 b1) (max a1 b1))) := Lib.hid (by unfold betwB; rw [ha, hb, hc, h1, h2, h3]; simp [h4])
  have hE := run_eqNode
  rcases Int.lt_trichotomy a0 b0 with g0 | g0 | g0 <;> rcases Int.lt_trichotomy a1 b1 with g1 | g1 | g1
  · rw [show min a0 b0 = a0 by omega, show max a0 b0 = b0 by omega, show min a1 b1 = a1 by omega, show max a1 b1 = b1 by omega] at HR
    cases e1 : inB c0 a0 b0 <;> rw [e1] at HR
    all_goals
      go_enter Tryz.func75, Tryz.ntmps75
      go_wp2_with (first | (go_at_call 63; refine (spec_NodeOk _ _ _).mono ?_; rintro e w2 ⟨rfl, x2⟩; have q00 := x2.cell (a := ⟨w.heap.size, 0, none⟩) (u := .int .i64 a0) (by simp [go_sem]); have q01 := x2.cell (a := ⟨w.heap.size, 1, none⟩) (u := .int .i64 a1) (by simp [go_sem]); have q10 := x2.cell (a := ⟨w.heap.size + 1, 0, none⟩) (u := .int .i64 b0) (by simp [go_sem]); have q11 := x2.cell (a := ⟨w.heap.size + 1, 1, none⟩) (u := .int .i64 b1) (by simp [go_sem]); have q20 := x2.cell (a := ⟨w.heap.size + 1 + 1, 0, none⟩) (u := .int .i64 c0) (by simp [go_sem]); have q21 := x2.cell (a := ⟨w.heap.size + 1 + 1, 1, none⟩) (u := .int .i64 c1) (by simp [go_sem]); have X2 := (Ext.refl w).alloc _ |>.alloc _ |>.alloc _ |>.trans x2; clear x2) | (go_at_call 63; refine (spec_NodeOk _ _ _).mono ?_; rintro e w3 ⟨rfl, x3⟩; replace q00 := x3.cell q00; replace q01 := x3.cell q01; replace q10 := x3.cell q10; replace q11 := x3.cell q11; replace q20 := x3.cell q20; replace q21 := x3.cell q21; replace X2 := X2.trans x3; clear x3) | (go_at_call 77; refine (spec_l02Turn _ _ _ _ _ _ ha hb hc _).mono ?_; rintro e w4 ⟨rfl, x4⟩; replace q00 := x4.cell q00; replace q01 := x4.cell q01; replace q10 := x4.cell q10; replace q11 := x4.cell q11; replace q20 := x4.cell q20; replace q21 := x4.cell q21; replace X2 := X2.trans x4; clear x4) | (go_at_call 45; refine (l01In_any _ _ _ _).mono ?_; rintro e w5 ⟨rfl, x5⟩; replace q00 := x5.cell q00; replace q01 := x5.cell q01; replace q10 := x5.cell q10; replace q11 := x5.cell q11; replace q20 := x5.cell q20; replace q21 := x5.cell q21; replace X2 := X2.trans x5; clear x5))
      go_ret
      exact ⟨congrArg (fun z => Ending.returned (.bool z)) HR.out.symm, X2⟩
  · rw [show min a0 b0 = a0 by omega, show max a0 b0 = b0 by omega, show min a1 b1 = a1 by omega, show max a1 b1 = a1 by omega] at HR
    have l1 : ¬ a1 < b1 := by omega
    have u1 : ¬ b1 < a1 := by omega
    clear g1
    cases e1 : inB c0 a0 b0 <;> rw [e1] at HR
    all_goals
      go_enter Tryz.func75, Tryz.ntmps75
      go_wp2_with (first | (go_at_call 63; refine (spec_NodeOk _ _ _).mono ?_; rintro e w2 ⟨rfl, x2⟩; have q00 := x2.cell (a := ⟨w.heap.size, 0, none⟩) (u := .int .i64 a0) (by simp [go_sem]); have q01 := x2.cell (a := ⟨w.heap.size, 1, none⟩) (u := .int .i64 a1) (by simp [go_sem]); have q10 := x2.cell (a := ⟨w.heap.size + 1, 0, none⟩) (u := .int .i64 b0) (by simp [go_sem]); have q11 := x2.cell (a := ⟨w.heap.size + 1, 1, none⟩) (u := .int .i64 b1) (by simp [go_sem]); have q20 := x2.cell (a := ⟨w.heap.size + 1 + 1, 0, none⟩) (u := .int .i64 c0) (by simp [go_sem]); have q21 := x2.cell (a := ⟨w.heap.size + 1 + 1, 1, none⟩) (u := .int .i64 c1) (by simp [go_sem]); have X2 := (Ext.refl w).alloc _ |>.alloc _ |>.alloc _ |>.trans x2; clear x2) | (go_at_call 63; refine (spec_NodeOk _ _ _).mono ?_; rintro e w3 ⟨rfl, x3⟩; replace q00 := x3.cell q00; replace q01 := x3.cell q01; replace q10 := x3.cell q10; replace q11 := x3.cell q11; replace q20 := x3.cell q20; replace q21 := x3.cell q21; replace X2 := X2.trans x3; clear x3) | (go_at_call 77; refine (spec_l02Turn _ _ _ _ _ _ ha hb hc _).mono ?_; rintro e w4 ⟨rfl, x4⟩; replace q00 := x4.cell q00; replace q01 := x4.cell q01; replace q10 := x4.cell q10; replace q11 := x4.cell q11; replace q20 := x4.cell q20; replace q21 := x4.cell q21; replace X2 := X2.trans x4; clear x4) | (go_at_call 45; refine (l01In_any _ _ _ _).mono ?_; rintro e w5 ⟨rfl, x5⟩; replace q00 := x5.cell q00; replace q01 := x5.cell q01; replace q10 := x5.cell q10; replace q11 := x5.cell q11; replace q20 := x5.cell q20; replace q21 := x5.cell q21; replace X2 := X2.trans x5; clear x5))
      go_ret
      exact ⟨congrArg (fun z => Ending.returned (.bool z)) HR.out.symm, X2⟩
  · rw [show min a0 b0 = a0 by omega, show max a0 b0 = b0 by omega, show min a1 b1 = b1 by omega, show max a1 b1 = a1 by omega] at HR
    cases e1 : inB c0 a0 b0 <;> rw [e1] at HR
    all_goals
      go_enter Tryz.func75, Tryz.ntmps75
      go_wp2_with (first | (go_at_call 63; refine (spec_NodeOk _ _ _).mono ?_; rintro e w2 ⟨rfl, x2⟩; have q00 := x2.cell (a := ⟨w.heap.size, 0, none⟩) (u := .int .i64 a0) (by simp [go_sem]); have q01 := x2.cell (a := ⟨w.heap.size, 1, none⟩) (u := .int .i64 a1) (by simp [go_sem]); have q10 := x2.cell (a := ⟨w.heap.size + 1, 0, none⟩) (u := .int .i64 b0) (by simp [go_sem]); have q11 := x2.cell (a := ⟨w.heap.size + 1, 1, none⟩) (u := .int .i64 b1) (by simp [go_sem]); have q20 := x2.cell (a := ⟨w.heap.size + 1 + 1, 0, none⟩) (u := .int .i64 c0) (by simp [go_sem]); have q21 := x2.cell (a := ⟨w.heap.size + 1 + 1, 1, none⟩) (u := .int .i64 c1) (by simp [go_sem]); have X2 := (Ext.refl w).alloc _ |>.alloc _ |>.alloc _ |>.trans x2; clear x2) | (go_at_call 63; refine (spec_NodeOk _ _ _).mono ?_; rintro e w3 ⟨rfl, x3⟩; replace q00 := x3.cell q00; replace q01 := x3.cell q01; replace q10 := x3.cell q10; replace q11 := x3.cell q11; replace q20 := x3.cell q20; replace q21 := x3.cell q21; replace X2 := X2.trans x3; clear x3) | (go_at_call 77; refine (spec_l02Turn _ _ _ _ _ _ ha hb hc _).mono ?_; rintro e w4 ⟨rfl, x4⟩; replace q00 := x4.cell q00; replace q01 := x4.cell q01; replace q10 := x4.cell q10; replace q11 := x4.cell q11; replace q20 := x4.cell q20; replace q21 := x4.cell q21; replace X2 := X2.trans x4; clear x4) | (go_at_call 45; refine (l01In_any _ _ _ _).mono ?_; rintro e w5 ⟨rfl, x5⟩; replace q00 := x5.cell q00; replace q01 := x5.cell q01; replace q10 := x5.cell q10; replace q11 := x5.cell q11; replace q20 := x5.cell q20; replace q21 := x5.cell q21; replace X2 := X2.trans x5; clear x5))
      go_ret
      exact ⟨congrArg (fun z => Ending.returned (.bool z)) HR.out.symm, X2⟩
  · rw [show min a0 b0 = a0 by omega, show max a0 b0 = a0 by omega, show min a1 b1 = a1 by omega, show max a1 b1 = b1 by omega] at HR
    have l0 : ¬ a0 < b0 := by omega
    have u0 : ¬ b0 < a0 := by omega
    clear g0
    cases e1 : inB c0 a0 a0 <;> rw [e1] at HR
    all_goals
      go_enter Tryz.func75, Tryz.ntmps75
      go_wp2_with (first | (go_at_call 63; refine (spec_NodeOk _ _ _).mono ?_; rintro e w2 ⟨rfl, x2⟩; have q00 := x2.cell (a := ⟨w.heap.size, 0, none⟩) (u := .int .i64 a0) (by simp [go_sem]); have q01 := x2.cell (a := ⟨w.heap.size, 1, none⟩) (u := .int .i64 a1) (by simp [go_sem]); have q10 := x2.cell (a := ⟨w.heap.size + 1, 0, none⟩) (u := .int .i64 b0) (by simp [go_sem]); have q11 := x2.cell (a := ⟨w.heap.size + 1, 1, none⟩) (u := .int .i64 b1) (by simp [go_sem]); have q20 := x2.cell (a := ⟨w.heap.size + 1 + 1, 0, none⟩) (u := .int .i64 c0) (by simp [go_sem]); have q21 := x2.cell (a := ⟨w.heap.size + 1 + 1, 1, none⟩) (u := .int .i64 c1) (by simp [go_sem]); have X2 := (Ext.refl w).alloc _ |>.alloc _ |>.alloc _ |>.trans x2; clear x2) | (go_at_call 63; refine (spec_NodeOk _ _ _).mono ?_; rintro e w3 ⟨rfl, x3⟩; replace q00 := x3.cell q00; replace q01 := x3.cell q01; replace q10 := x3.cell q10; replace q11 := x3.cell q11; replace q20 := x3.cell q20; replace q21 := x3.cell q21; replace X2 := X2.trans x3; clear x3) | (go_at_call 77; refine (spec_l02Turn _ _ _ _ _ _ ha hb hc _).mono ?_; rintro e w4 ⟨rfl, x4⟩; replace q00 := x4.cell q00; replace q01 := x4.cell q01; replace q10 := x4.cell q10; replace q11 := x4.cell q11; replace q20 := x4.cell q20; replace q21 := x4.cell q21; replace X2 := X2.trans x4; clear x4) | (go_at_call 45; refine (l01In_any _ _ _ _).mono ?_; rintro e w5 ⟨rfl, x5⟩; replace q00 := x5.cell q00; replace q01 := x5.cell q01; replace q10 := x5.cell q10; replace q11 := x5.cell q11; replace q20 := x5.cell q20; replace q21 := x5.cell q21; replace X2 := X2.trans x5; clear x5))
      go_ret
      exact ⟨congrArg (fun z => Ending.returned (.bool z)) HR.out.symm, X2⟩
  · rw [show min a0 b0 = a0 by omega, show max a0 b0 = a0 by omega, show min a1 b1 = a1 by omega, show max a1 b1 = a1 by omega] at HR
    have l0 : ¬ a0 < b0 := by omega
    have u0 : ¬ b0 < a0 := by omega
    clear g0
    have l1 : ¬ a1 < b1 := by omega
    have u1 : ¬ b1 < a1 := by omega
    clear g1
    cases e1 : inB c0 a0 a0 <;> rw [e1] at HR
    all_goals
      go_enter Tryz.func75, Tryz.ntmps75
      go_wp2_with (first | (go_at_call 63; refine (spec_NodeOk _ _ _).mono ?_; rintro e w2 ⟨rfl, x2⟩; have q00 := x2.cell (a := ⟨w.heap.size, 0, none⟩) (u := .int .i64 a0) (by simp [go_sem]); have q01 := x2.cell (a := ⟨w.heap.size, 1, none⟩) (u := .int .i64 a1) (by simp [go_sem]); have q10 := x2.cell (a := ⟨w.heap.size + 1, 0, none⟩) (u := .int .i64 b0) (by simp [go_sem]); have q11 := x2.cell (a := ⟨w.heap.size + 1, 1, none⟩) (u := .int .i64 b1) (by simp [go_sem]); have q20 := x2.cell (a := ⟨w.heap.size + 1 + 1, 0, none⟩) (u := .int .i64 c0) (by simp [go_sem]); have q21 := x2.cell (a := ⟨w.heap.size + 1 + 1, 1, none⟩) (u := .int .i64 c1) (by simp [go_sem]); have X2 := (Ext.refl w).alloc _ |>.alloc _ |>.alloc _ |>.trans x2; clear x2) | (go_at_call 63; refine (spec_NodeOk _ _ _).mono ?_; rintro e w3 ⟨rfl, x3⟩; replace q00 := x3.cell q00; replace q01 := x3.cell q01; replace q10 := x3.cell q10; replace q11 := x3.cell q11; replace q20 := x3.cell q20; replace q21 := x3.cell q21; replace X2 := X2.trans x3; clear x3) | (go_at_call 77; refine (spec_l02Turn _ _ _ _ _ _ ha hb hc _).mono ?_; rintro e w4 ⟨rfl, x4⟩; replace q00 := x4.cell q00; replace q01 := x4.cell q01; replace q10 := x4.cell q10; replace q11 := x4.cell q11; replace q20 := x4.cell q20; replace q21 := x4.cell q21; replace X2 := X2.trans x4; clear x4) | (go_at_call 45; refine (l01In_any _ _ _ _).mono ?_; rintro e w5 ⟨rfl, x5⟩; replace q00 := x5.cell q00; replace q01 := x5.cell q01; replace q10 := x5.cell q10; replace q11 := x5.cell q11; replace q20 := x5.cell q20; replace q21 := x5.cell q21; replace X2 := X2.trans x5; clear x5))
      go_ret
      exact ⟨congrArg (fun z => Ending.returned (.bool z)) HR.out.symm, X2⟩
  · rw [show min a0 b0 = a0 by omega, show max a0 b0 = a0 by omega, show min a1 b1 = b1 by omega, show max a1 b1 = a1 by omega] at HR
    have l0 : ¬ a0 < b0 := by omega
    have u0 : ¬ b0 < a0 := by omega
    clear g0
    cases e1 : inB c0 a0 a0 <;> rw [e1] at HR
    all_goals
      go_enter Tryz.func75, Tryz.ntmps75
      go_wp2_with (first | (go_at_call 63; refine (spec_NodeOk _ _ _).mono ?_; rintro e w2 ⟨rfl, x2⟩; have q00 := x2.cell (a := ⟨w.heap.size, 0, none⟩) (u := .int .i64 a0) (by simp [go_sem]); have q01 := x2.cell (a := ⟨w.heap.size, 1, none⟩) (u := .int .i64 a1) (by simp [go_sem]); have q10 := x2.cell (a := ⟨w.heap.size + 1, 0, none⟩) (u := .int .i64 b0) (by simp [go_sem]); have q11 := x2.cell (a := ⟨w.heap.size + 1, 1, none⟩) (u := .int .i64 b1) (by simp [go_sem]); have q20 := x2.cell (a := ⟨w.heap.size + 1 + 1, 0, none⟩) (u := .int .i64 c0) (by simp [go_sem]); have q21 := x2.cell (a := ⟨w.heap.size + 1 + 1, 1, none⟩) (u := .int .i64 c1) (by simp [go_sem]); have X2 := (Ext.refl w).alloc _ |>.alloc _ |>.alloc _ |>.trans x2; clear x2) | (go_at_call 63; refine (spec_NodeOk _ _ _).mono ?_; rintro e w3 ⟨rfl, x3⟩; replace q00 := x3.cell q00; replace q01 := x3.cell q01; replace q10 := x3.cell q10; replace q11 := x3.cell q11; replace q20 := x3.cell q20; replace q21 := x3.cell q21; replace X2 := X2.trans x3; clear x3) | (go_at_call 77; refine (spec_l02Turn _ _ _ _ _ _ ha hb hc _).mono ?_; rintro e w4 ⟨rfl, x4⟩; replace q00 := x4.cell q00; replace q01 := x4.cell q01; replace q10 := x4.cell q10; replace q11 := x4.cell q11; replace q20 := x4.cell q20; replace q21 := x4.cell q21; replace X2 := X2.trans x4; clear x4) | (go_at_call 45; refine (l01In_any _ _ _ _).mono ?_; rintro e w5 ⟨rfl, x5⟩; replace q00 := x5.cell q00; replace q01 := x5.cell q01; replace q10 := x5.cell q10; replace q11 := x5.cell q11; replace q20 := x5.cell q20; replace q21 := x5.cell q21; replace X2 := X2.trans x5; clear x5))
      go_ret
      exact ⟨congrArg (fun z => Ending.returned (.bool z)) HR.out.symm, X2⟩
  · rw [show min a0 b0 = b0 by omega, show max a0 b0 = a0 by omega, show min a1 b1 = a1 by omega, show max a1 b1 = b1 by omega] at HR
    cases e1 : inB c0 b0 a0 <;> rw [e1] at HR
    all_goals
      go_enter Tryz.func75, Tryz.ntmps75
      go_wp2_with (first | (go_at_call 63; refine (spec_NodeOk _ _ _).mono ?_; rintro e w2 ⟨rfl, x2⟩; have q00 := x2.cell (a := ⟨w.heap.size, 0, none⟩) (u := .int .i64 a0) (by simp [go_sem]); have q01 := x2.cell (a := ⟨w.heap.size, 1, none⟩) (u := .int .i64 a1) (by simp [go_sem]); have q10 := x2.cell (a := ⟨w.heap.size + 1, 0, none⟩) (u := .int .i64 b0) (by simp [go_sem]); have q11 := x2.cell (a := ⟨w.heap.size + 1, 1, none⟩) (u := .int .i64 b1) (by simp [go_sem]); have q20 := x2.cell (a := ⟨w.heap.size + 1 + 1, 0, none⟩) (u := .int .i64 c0) (by simp [go_sem]); have q21 := x2.cell (a := ⟨w.heap.size + 1 + 1, 1, none⟩) (u := .int .i64 c1) (by simp [go_sem]); have X2 := (Ext.refl w).alloc _ |>.alloc _ |>.alloc _ |>.trans x2; clear x2) | (go_at_call 63; refine (spec_NodeOk _ _ _).mono ?_; rintro e w3 ⟨rfl, x3⟩; replace q00 := x3.cell q00; replace q01 := x3.cell q01; replace q10 := x3.cell q10; replace q11 := x3.cell q11; replace q20 := x3.cell q20; replace q21 := x3.cell q21; replace X2 := X2.trans x3; clear x3) | (go_at_call 77; refine (spec_l02Turn _ _ _ _ _ _ ha hb hc _).mono ?_; rintro e w4 ⟨rfl, x4⟩; replace q00 := x4.cell q00; replace q01 := x4.cell q01; replace q10 := x4.cell q10; replace q11 := x4.cell q11; replace q20 := x4.cell q20; replace q21 := x4.cell q21; replace X2 := X2.trans x4; clear x4) | (go_at_call 45; refine (l01In_any _ _ _ _).mono ?_; rintro e w5 ⟨rfl, x5⟩; replace q00 := x5.cell q00; replace q01 := x5.cell q01; replace q10 := x5.cell q10; replace q11 := x5.cell q11; replace q20 := x5.cell q20; replace q21 := x5.cell q21; replace X2 := X2.trans x5; clear x5))
      go_ret
      exact ⟨congrArg (fun z => Ending.returned (.bool z)) HR.out.symm, X2⟩
  · rw [show min a0 b0 = b0 by omega, show max a0 b0 = a0 by omega, show min a1 b1 = a1 by omega, show max a1 b1 = a1 by omega] at HR
    have l1 : ¬ a1 < b1 := by omega
    have u1 : ¬ b1 < a1 := by omega
    clear g1
    cases e1 : inB c0 b0 a0 <;> rw [e1] at HR
    all_goals
      go_enter Tryz.func75, Tryz.ntmps75
      go_wp2_with (first | (go_at_call 63; refine (spec_NodeOk _ _ _).mono ?_; rintro e w2 ⟨rfl, x2⟩; have q00 := x2.cell (a := ⟨w.heap.size, 0, none⟩) (u := .int .i64 a0) (by simp [go_sem]); have q01 := x2.cell (a := ⟨w.heap.size, 1, none⟩) (u := .int .i64 a1) (by simp [go_sem]); have q10 := x2.cell (a := ⟨w.heap.size + 1, 0, none⟩) (u := .int .i64 b0) (by simp [go_sem]); have q11 := x2.cell (a := ⟨w.heap.size + 1, 1, none⟩) (u := .int .i64 b1) (by simp [go_sem]); have q20 := x2.cell (a := ⟨w.heap.size + 1 + 1, 0, none⟩) (u := .int .i64 c0) (by simp [go_sem]); have q21 := x2.cell (a := ⟨w.heap.size + 1 + 1, 1, none⟩) (u := .int .i64 c1) (by simp [go_sem]); have X2 := (Ext.refl w).alloc _ |>.alloc _ |>.alloc _ |>.trans x2; clear x2) | (go_at_call 63; refine (spec_NodeOk _ _ _).mono ?_; rintro e w3 ⟨rfl, x3⟩; replace q00 := x3.cell q00; replace q01 := x3.cell q01; replace q10 := x3.cell q10; replace q11 := x3.cell q11; replace q20 := x3.cell q20; replace q21 := x3.cell q21; replace X2 := X2.trans x3; clear x3) | (go_at_call 77; refine (spec_l02Turn _ _ _ _ _ _ ha hb hc _).mono ?_; rintro e w4 ⟨rfl, x4⟩; replace q00 := x4.cell q00; replace q01 := x4.cell q01; replace q10 := x4.cell q10; replace q11 := x4.cell q11; replace q20 := x4.cell q20; replace q21 := x4.cell q21; replace X2 := X2.trans x4; clear x4) | (go_at_call 45; refine (l01In_any _ _ _ _).mono ?_; rintro e w5 ⟨rfl, x5⟩; replace q00 := x5.cell q00; replace q01 := x5.cell q01; replace q10 := x5.cell q10; replace q11 := x5.cell q11; replace q20 := x5.cell q20; replace q21 := x5.cell q21; replace X2 := X2.trans x5; clear x5))
      go_ret
      exact ⟨congrArg (fun z => Ending.returned (.bool z)) HR.out.symm, X2⟩
  · rw [show min a0 b0 = b0 by omega, show max a0 b0 = a0 by omega, show min a1 b1 = b1 by omega, show max a1 b1 = a1 by omega] at HR
    cases e1 : inB c0 b0 a0 <;> rw [e1] at HR
    all_goals
      go_enter Tryz.func75, Tryz.ntmps75
      go_wp2_with (first | (go_at_call 63; refine (spec_NodeOk _ _ _).mono ?_; rintro e w2 ⟨rfl, x2⟩; have q00 := x2.cell (a := ⟨w.heap.size, 0, none⟩) (u := .int .i64 a0) (by simp [go_sem]); have q01 := x2.cell (a := ⟨w.heap.size, 1, none⟩) (u := .int .i64 a1) (by simp [go_sem]); have q10 := x2.cell (a := ⟨w.heap.size + 1, 0, none⟩) (u := .int .i64 b0) (by simp [go_sem]); have q11 := x2.cell (a := ⟨w.heap.size + 1, 1, none⟩) (u := .int .i64 b1) (by simp [go_sem]); have q20 := x2.cell (a := ⟨w.heap.size + 1 + 1, 0, none⟩) (u := .int .i64 c0) (by simp [go_sem]); have q21 := x2.cell (a := ⟨w.heap.size + 1 + 1, 1, none⟩) (u := .int .i64 c1) (by simp [go_sem]); have X2 := (Ext.refl w).alloc _ |>.alloc _ |>.alloc _ |>.trans x2; clear x2) | (go_at_call 63; refine (spec_NodeOk _ _ _).mono ?_; rintro e w3 ⟨rfl, x3⟩; replace q00 := x3.cell q00; replace q01 := x3.cell q01; replace q10 := x3.cell q10; replace q11 := x3.cell q11; replace q20 := x3.cell q20; replace q21 := x3.cell q21; replace X2 := X2.trans x3; clear x3) | (go_at_call 77; refine (spec_l02Turn _ _ _ _ _ _ ha hb hc _).mono ?_; rintro e w4 ⟨rfl, x4⟩; replace q00 := x4.cell q00; replace q01 := x4.cell q01; replace q10 := x4.cell q10; replace q11 := x4.cell q11; replace q20 := x4.cell q20; replace q21 := x4.cell q21; replace X2 := X2.trans x4; clear x4) | (go_at_call 45; refine (l01In_any _ _ _ _).mono ?_; rintro e w5 ⟨rfl, x5⟩; replace q00 := x5.cell q00; replace q01 := x5.cell q01; replace q10 := x5.cell q10; replace q11 := x5.cell q11; replace q20 := x5.cell q20; replace q21 := x5.cell q21; replace X2 := X2.trans x5; clear x5))
      go_ret
      exact ⟨congrArg (fun z => Ending.returned (.bool z)) HR.out.symm, X2⟩

theorem impl_IsBetween (a0 a1 b0 b1 c0 c1 : Int) (ha0 : I64 a0) (ha1 : I64 a1) (hb0 : I64 b0) (hb1 : I64 b1) (hc0 : I64 c0) (hc1 : I64 c1) (w : World) :
    Calls Tryz.prog 71 #[.agg #[.int .i64 a0, .int .i64 a1], .agg #[.int .i64 b0, .int .i64 b1], .agg #[.int .i64 c0, .int .i64 c1]] w fun e w' => e = .returned (.bool (betwB a0 a1 b0 b1 c0 c1)) ∧ Ext w w' := by
  cases h : (nodeB a0 a1 && nodeB b0 b1 && nodeB c0 c1)
  · exact impl_IsBetween_no a0 a1 b0 b1 c0 c1 ha0 ha1 hb0 hb1 hc0 hc1 h w
  cases h1 : ptEq a0 a1 b0 b1
  case true => exact impl_IsBetween_e1 a0 a1 b0 b1 c0 c1 ha0 ha1 hb0 hb1 hc0 hc1 h h1 w
  cases h2 : ptEq a0 a1 c0 c1
  case true => exact impl_IsBetween_e2 a0 a1 b0 b1 c0 c1 ha0 ha1 hb0 hb1 hc0 hc1 h h1 h2 w
  cases h3 : ptEq b0 b1 c0 c1
  case true => exact impl_IsBetween_e3 a0 a1 b0 b1 c0 c1 ha0 ha1 hb0 hb1 hc0 hc1 h h1 h2 h3 w
  by_cases h4 : trn a0 a1 b0 b1 c0 c1 = 0
  · exact impl_IsBetween_in a0 a1 b0 b1 c0 c1 ha0 ha1 hb0 hb1 hc0 hc1 h h1 h2 h3 h4 w
  · exact impl_IsBetween_tn a0 a1 b0 b1 c0 c1 ha0 ha1 hb0 hb1 hc0 hc1 h h1 h2 h3 h4 w
theorem spec_IsBetween (a0 a1 b0 b1 c0 c1 : Int) (ha0 : I64 a0) (ha1 : I64 a1) (hb0 : I64 b0) (hb1 : I64 b1) (hc0 : I64 c0) (hc1 : I64 c1) (w : World) :
    Calls Tryz.prog 75 #[.agg #[.int .i64 a0, .int .i64 a1], .agg #[.int .i64 b0, .int .i64 b1], .agg #[.int .i64 c0, .int .i64 c1]] w fun e w' => e = .returned (.bool (betwB a0 a1 b0 b1 c0 c1)) ∧ Ext w w' := by
  cases ha : nodeB a0 a1
  · exact spec_IsBetween_na a0 a1 b0 b1 c0 c1 ha0 ha1 hb0 hb1 hc0 hc1 ha w
  cases hb : nodeB b0 b1
  · exact spec_IsBetween_nb a0 a1 b0 b1 c0 c1 ha0 ha1 hb0 hb1 hc0 hc1 ha hb w
  cases hc : nodeB c0 c1
  · exact spec_IsBetween_nc a0 a1 b0 b1 c0 c1 ha0 ha1 hb0 hb1 hc0 hc1 ha hb hc w
  cases h1 : ptEq a0 a1 b0 b1
  case true => exact spec_IsBetween_e1 a0 a1 b0 b1 c0 c1 ha0 ha1 hb0 hb1 hc0 hc1 ha hb hc h1 w
  cases h3 : ptEq b0 b1 c0 c1
  case true => exact spec_IsBetween_e2 a0 a1 b0 b1 c0 c1 ha0 ha1 hb0 hb1 hc0 hc1 ha hb hc h1 h3 w
  cases h2 : ptEq a0 a1 c0 c1
  case true => exact spec_IsBetween_e3 a0 a1 b0 b1 c0 c1 ha0 ha1 hb0 hb1 hc0 hc1 ha hb hc h1 h3 h2 w
  by_cases h4 : trn a0 a1 b0 b1 c0 c1 = 0
  · exact spec_IsBetween_in a0 a1 b0 b1 c0 c1 ha0 ha1 hb0 hb1 hc0 hc1 ha hb hc h1 h2 h3 h4 w
  · exact spec_IsBetween_tn a0 a1 b0 b1 c0 c1 ha0 ha1 hb0 hb1 hc0 hc1 ha hb hc h1 h3 h2 h4 w

end Go.Proofs.YtgmhmlhdiklaaaaGreatDoor
