/-
  Contracts of the tests whether a node lies on a lead. No conditions.
-/
import Derived.Test.YtgmhmlhdiklaaaaGreatDoorSpecCross
namespace Go.Proofs.YtgmhmlhdiklaaaaGreatDoor
open Go.RowKit
set_option linter.unusedVariables false

set_option maxRecDepth 100000 in
set_option maxHeartbeats 4000000 in
theorem impl_IsOnLead (A : Option Addr) (n c : Nat) (P : Nat → Nat → Int) (hn : n ≤ 9223372036854775807) (hN : NodesOk n P) (i j v : Nat) (hij : i < j) (hjn : j < n) (hv : v < n) (hvi : v ≠ i) (hvj : v ≠ j) (w : World) (hr : Recs w 2 A n P) :
    Calls Tryz.prog 57 #[.slice A n c, .agg #[.int .i64 (i : Int), .int .i64 (j : Int)], .agg #[.int .i64 (P v 0), .int .i64 (P v 1)]] w fun e w' => e = .returned (.bool (betwB (P i 0) (P i 1) (P j 0) (P j 1) (P v 0) (P v 1))) ∧ Ext w w' := by
  obtain ⟨b, o, rfl, hb, _⟩ := hr.at2 hjn
  have hin : i < n := by omega
  obtain ⟨i0, i1⟩ := hr.cell2 hin
  obtain ⟨j0, j1⟩ := hr.cell2 hjn
  have HI := Lib.hid (⟨i0, i1⟩ : _ ∧ _)
  have HJ := Lib.hid (⟨j0, j1⟩ : _ ∧ _)
  clear i0 i1 j0 j1
  have hE := run_eqNode
  have HN := Lib.hid hN
  clear hN
  have hvi' : ptEq (P v 0) (P v 1) (P i 0) (P i 1) = false := HN.out.ne hv hin hvi
  have hvj' : ptEq (P v 0) (P v 1) (P j 0) (P j 1) = false := HN.out.ne hv hjn hvj
  clear hvi hvj
  have HL : Hid (∀ W, Ext w W → Calls Tryz.prog 55 #[.slice (some ⟨b, o, none⟩) n c, .agg #[.int .i64 (i : Int), .int .i64 (j : Int)]] W fun e w' => e = .returned (.bool true) ∧ Ext W w') := Lib.hid (fun W X => by have q := impl_LeadOk (some ⟨b, o, none⟩) n c P i j hn HN.out W (hr.ext X); rwa [rngB_nat hij hjn] at q)
  have HB : Hid (∀ W, Calls Tryz.prog 71 #[.agg #[.int .i64 (P i 0), .int .i64 (P i 1)], .agg #[.int .i64 (P j 0), .int .i64 (P j 1)], .agg #[.int .i64 (P v 0), .int .i64 (P v 1)]] W fun e w' => e = .returned (.bool (betwB (P i 0) (P i 1) (P j 0) (P j 1) (P v 0) (P v 1))) ∧ Ext W w') := Lib.hid (fun W => impl_IsBetween _ _ _ _ _ _ (hr.2 i 0) (hr.2 i 1) (hr.2 j 0) (hr.2 j 1) (hr.2 v 0) (hr.2 v 1) W)
  have k1 : (0 : Int) ≤ (i : Int) := by omega
  have k2 : (i : Int) < (n : Int) := by omega
  have k3 : (0 : Int) ≤ (j : Int) := by omega
  have k4 : (j : Int) < (n : Int) := by omega
  go_enter Tryz.func57, Tryz.ntmps57
  go_wp2_with fail
  refine (HL.out _ ((Ext.refl _).alloc _ |>.alloc _)).mono ?_
  rintro e w2 ⟨rfl, x2⟩
  have q00 := x2.cell (a := ⟨w.heap.size, 0, none⟩) (u := .int .i64 (i : Int)) (by simp [go_sem])
  have q01 := x2.cell (a := ⟨w.heap.size, 1, none⟩) (u := .int .i64 (j : Int)) (by simp [go_sem])
  have q10 := x2.cell (a := ⟨w.heap.size + 1, 0, none⟩) (u := .int .i64 (P v 0)) (by simp [go_sem])
  have q11 := x2.cell (a := ⟨w.heap.size + 1, 1, none⟩) (u := .int .i64 (P v 1)) (by simp [go_sem])
  have X2 := ((Ext.refl w).alloc _ |>.alloc _).trans x2
  clear x2
  obtain ⟨i0, i1⟩ := HI.out
  obtain ⟨j0, j1⟩ := HJ.out
  replace i0 := X2.cell i0
  replace i1 := X2.cell i1
  replace j0 := X2.cell j0
  replace j1 := X2.cell j1
  have z0 : w.heap.size < w2.heap.size := World.block_lt_of_cell? _ _ q00
  have z2 : b < w2.heap.size := World.block_lt_of_cell? _ _ i0
  have z1 : w.heap.size + 1 < w2.heap.size := World.block_lt_of_cell? _ _ q10
  have z3 : b < w2.heap.size + 1 := by omega
  have z4 : w.heap.size + 1 < w2.heap.size + 1 := by omega
  have z5 : w.heap.size < w2.heap.size + 1 := by omega
  go_upto_region 3 with fail
  go_cut [7, 8] (fun s7 s8 wx => At2 wx s7 (P i 0) (P i 1) ∧ At2 wx s8 (P j 0) (P j 1) ∧ Ext w2 wx)
  case first =>
    go_region_held3 (fun w' => w'.cell? ⟨w.heap.size, 0, none⟩ = some (.int .i64 (i : Int)) ∧ w'.cell? ⟨w.heap.size, 1, none⟩ = some (.int .i64 (j : Int)) ∧ w'.cell? ⟨b, o + i * 2, none⟩ = some (.int .i64 (P i 0)) ∧ w'.cell? ⟨b, o + i * 2 + 1, none⟩ = some (.int .i64 (P i 1)) ∧ w'.cell? ⟨b, o + j * 2, none⟩ = some (.int .i64 (P j 0)) ∧ w'.cell? ⟨b, o + j * 2 + 1, none⟩ = some (.int .i64 (P j 1))) (go_keep) (fail)
    all_goals (go_wp2_with fail; go_meet; exact ⟨⟨_, rfl, by simp, by simp⟩, ⟨_, rfl, by simp, by simp⟩, by repeat (first | exact Ext.refl _ | apply Ext.drew | apply Ext.alloc)⟩)
  case rest =>
  obtain ⟨⟨g7, rfl, a0, a1⟩, ⟨g8, rfl, b0, b1⟩, X4⟩ := hcut
  replace q10 := X4.cell q10
  replace q11 := X4.cell q11
  replace X2 := X2.trans X4
  clear X4 q00 q01 i0 i1 j0 j1 z0 z1 z2 z3 z4 z5
  go_wp2_with fail
  refine (HB.out _).mono ?_
  rintro e w5 ⟨rfl, x5⟩
  go_wp2_with fail
  go_ret
  exact ⟨rfl, X2.trans x5⟩

set_option maxRecDepth 100000 in
set_option maxHeartbeats 4000000 in
theorem spec_IsOnLead (A : Option Addr) (n c : Nat) (P : Nat → Nat → Int) (hn : n ≤ 9223372036854775807) (hN : NodesOk n P) (i j v : Nat) (hij : i < j) (hjn : j < n) (hv : v < n) (hvi : v ≠ i) (hvj : v ≠ j) (w : World) (hr : Recs w 2 A n P) :
    Calls Tryz.prog 66 #[.slice A n c, .agg #[.int .i64 (i : Int), .int .i64 (j : Int)], .agg #[.int .i64 (P v 0), .int .i64 (P v 1)]] w fun e w' => e = .returned (.bool (betwB (P i 0) (P i 1) (P j 0) (P j 1) (P v 0) (P v 1))) ∧ Ext w w' := by
  obtain ⟨b, o, rfl, hb, _⟩ := hr.at2 hjn
  have hin : i < n := by omega
  obtain ⟨i0, i1⟩ := hr.cell2 hin
  obtain ⟨j0, j1⟩ := hr.cell2 hjn
  have HI := Lib.hid (⟨i0, i1⟩ : _ ∧ _)
  have HJ := Lib.hid (⟨j0, j1⟩ : _ ∧ _)
  clear i0 i1 j0 j1
  have hE := run_eqNode
  have HN := Lib.hid hN
  clear hN
  have hvi' : ptEq (P v 0) (P v 1) (P i 0) (P i 1) = false := HN.out.ne hv hin hvi
  have hvj' : ptEq (P v 0) (P v 1) (P j 0) (P j 1) = false := HN.out.ne hv hjn hvj
  clear hvi hvj
  have HL : Hid (∀ W, Ext w W → Calls Tryz.prog 64 #[.slice (some ⟨b, o, none⟩) n c, .agg #[.int .i64 (i : Int), .int .i64 (j : Int)]] W fun e w' => e = .returned (.bool true) ∧ Ext W w') := Lib.hid (fun W X => by have q := spec_LeadOk (some ⟨b, o, none⟩) n c P i j hn HN.out W (hr.ext X); rwa [rngB_nat hij hjn] at q)
  have HB : Hid (∀ W, Calls Tryz.prog 75 #[.agg #[.int .i64 (P i 0), .int .i64 (P i 1)], .agg #[.int .i64 (P j 0), .int .i64 (P j 1)], .agg #[.int .i64 (P v 0), .int .i64 (P v 1)]] W fun e w' => e = .returned (.bool (betwB (P i 0) (P i 1) (P j 0) (P j 1) (P v 0) (P v 1))) ∧ Ext W w') := Lib.hid (fun W => spec_IsBetween _ _ _ _ _ _ (hr.2 i 0) (hr.2 i 1) (hr.2 j 0) (hr.2 j 1) (hr.2 v 0) (hr.2 v 1) W)
  have k1 : (0 : Int) ≤ (i : Int) := by omega
  have k2 : (i : Int) < (n : Int) := by omega
  have k3 : (0 : Int) ≤ (j : Int) := by omega
  have k4 : (j : Int) < (n : Int) := by omega
  go_enter Tryz.func66, Tryz.ntmps66
  go_wp2_with fail
  refine (HL.out _ ((Ext.refl _).alloc _ |>.alloc _)).mono ?_
  rintro e w2 ⟨rfl, x2⟩
  have q00 := x2.cell (a := ⟨w.heap.size, 0, none⟩) (u := .int .i64 (i : Int)) (by simp [go_sem])
  have q01 := x2.cell (a := ⟨w.heap.size, 1, none⟩) (u := .int .i64 (j : Int)) (by simp [go_sem])
  have q10 := x2.cell (a := ⟨w.heap.size + 1, 0, none⟩) (u := .int .i64 (P v 0)) (by simp [go_sem])
  have q11 := x2.cell (a := ⟨w.heap.size + 1, 1, none⟩) (u := .int .i64 (P v 1)) (by simp [go_sem])
  have X2 := ((Ext.refl w).alloc _ |>.alloc _).trans x2
  clear x2
  obtain ⟨i0, i1⟩ := HI.out
  obtain ⟨j0, j1⟩ := HJ.out
  replace i0 := X2.cell i0
  replace i1 := X2.cell i1
  replace j0 := X2.cell j0
  replace j1 := X2.cell j1
  have z0 : w.heap.size < w2.heap.size := World.block_lt_of_cell? _ _ q00
  have z2 : b < w2.heap.size := World.block_lt_of_cell? _ _ i0
  have z1 : w.heap.size + 1 < w2.heap.size := World.block_lt_of_cell? _ _ q10
  have z3 : b < w2.heap.size + 1 := by omega
  have z4 : w.heap.size + 1 < w2.heap.size + 1 := by omega
  have z5 : w.heap.size < w2.heap.size + 1 := by omega
  go_wp2_with fail
  refine (HB.out _).mono ?_
  rintro e w5 ⟨rfl, x5⟩
  go_wp2_with fail
  go_ret
  exact ⟨rfl, X2.trans ((by repeat (first | exact Ext.refl _ | apply Ext.drew | apply Ext.drewN | apply Ext.alloc) : Ext w2 _).trans x5)⟩

end Go.Proofs.YtgmhmlhdiklaaaaGreatDoor
