/-
  Contract of the reference's test whether two leads cross. No conditions.
-/
import Derived.Test.YtgmhmlhdiklaaaaGreatDoorCross
namespace Go.Proofs.YtgmhmlhdiklaaaaGreatDoor
open Go.RowKit
set_option linter.unusedVariables false

def sgn (z : Int) : Int := if z < 0 then -1 else if 0 < z then 1 else 0
theorem sgn_bd (z : Int) : -1 ≤ sgn z ∧ sgn z ≤ 1 := by unfold sgn; split <;> (try split) <;> omega
theorem sgn_mul (a b : Int) : sgn a * sgn b < 0 ↔ a * b < 0 := by
  rcases Int.lt_trichotomy a 0 with ha | ha | ha <;> rcases Int.lt_trichotomy b 0 with hb | hb | hb
  · have h1 := Int.mul_pos_of_neg_of_neg ha hb
    simp only [sgn, if_pos ha, if_pos hb]; omega
  · subst hb; simp [sgn]
  · have h1 := Int.mul_neg_of_neg_of_pos ha hb
    simp only [sgn, if_pos ha, if_neg (by omega : ¬ b < 0), if_pos hb]; omega
  · subst ha; simp [sgn]
  · subst ha; simp [sgn]
  · subst ha; simp [sgn]
  · have h1 := Int.mul_neg_of_pos_of_neg ha hb
    simp only [sgn, if_pos hb, if_neg (by omega : ¬ a < 0), if_pos ha]; omega
  · subst hb; simp [sgn]
  · have h1 := Int.mul_pos ha hb
    simp only [sgn, if_neg (by omega : ¬ a < 0), if_pos ha, if_neg (by omega : ¬ b < 0), if_pos hb]; omega
theorem trn_a (a0 a1 b0 b1 : Int) : trn a0 a1 b0 b1 a0 a1 = 0 := by unfold trn; simp
theorem trn_b (a0 a1 b0 b1 : Int) : trn a0 a1 b0 b1 b0 b1 = 0 := by unfold trn; rw [Int.mul_comm (b1 - a1)]; omega
theorem apart_share {P : Nat → Nat → Int} {i j p q : Nat} (h : i = p ∨ i = q ∨ j = p ∨ j = q) : apart4 (P i 0) (P i 1) (P j 0) (P j 1) (P p 0) (P p 1) (P q 0) (P q 1) = false := by
  unfold apart4
  rcases h with rfl | rfl | rfl | rfl
  · rw [trn_a]; simp
  · rw [trn_a, Int.mul_zero]; simp
  · rw [trn_b]; simp
  · rw [trn_b, Int.mul_zero]; simp
theorem crossB_comm (P : Nat → Nat → Int) (i j p q : Nat) : crossB P i j p q = crossB P p q i j := by
  unfold crossB betw4 apart4
  have e : decide (i = p ∧ j = q) = decide (p = i ∧ q = j) := decide_eq_decide.2 ⟨fun h => ⟨h.1.symm, h.2.symm⟩, fun h => ⟨h.1.symm, h.2.symm⟩⟩
  rw [e]
  generalize betwB (P i 0) (P i 1) (P j 0) (P j 1) (P p 0) (P p 1) = x1
  generalize betwB (P i 0) (P i 1) (P j 0) (P j 1) (P q 0) (P q 1) = x2
  generalize betwB (P p 0) (P p 1) (P q 0) (P q 1) (P i 0) (P i 1) = x3
  generalize betwB (P p 0) (P p 1) (P q 0) (P q 1) (P j 0) (P j 1) = x4
  generalize decide (trn (P i 0) (P i 1) (P j 0) (P j 1) (P p 0) (P p 1) * trn (P i 0) (P i 1) (P j 0) (P j 1) (P q 0) (P q 1) < 0) = y1
  generalize decide (trn (P p 0) (P p 1) (P q 0) (P q 1) (P i 0) (P i 1) * trn (P p 0) (P p 1) (P q 0) (P q 1) (P j 0) (P j 1) < 0) = y2
  generalize decide (p = i ∧ q = j) = z
  cases x1 <;> cases x2 <;> cases x3 <;> cases x4 <;> cases y1 <;> cases y2 <;> cases z <;> rfl
set_option maxHeartbeats 400000 in
theorem spec_l03Sign (z : Int) (w : World) : Calls Tryz.prog 76 #[.int .i64 z] w fun e w' => e = .returned (.int .i64 (sgn z)) ∧ Ext w w' := by
  rcases Int.lt_trichotomy z 0 with h | h | h
  · have HR : Hid (sgn z = -1) := Lib.hid (by unfold sgn; rw [if_pos h])
    go_enter Tryz.func76, Tryz.ntmps76
    go_wp2
    go_ret
    exact ⟨congrArg (fun z => Ending.returned (.int .i64 z)) HR.out.symm, Ext.refl w⟩
  · subst h
    go_enter Tryz.func76, Tryz.ntmps76
    go_wp2
    go_ret
    exact ⟨rfl, Ext.refl w⟩
  · have HR : Hid (sgn z = 1) := Lib.hid (by unfold sgn; rw [if_neg (by omega), if_pos h])
    have h2 : ¬ z < 0 := by omega
    go_enter Tryz.func76, Tryz.ntmps76
    go_wp2
    go_ret
    exact ⟨congrArg (fun z => Ending.returned (.int .i64 z)) HR.out.symm, Ext.refl w⟩

set_option maxRecDepth 100000 in
set_option maxHeartbeats 8000000 in
theorem spec_DoCross (A : Option Addr) (n c : Nat) (P : Nat → Nat → Int) (hn : n ≤ 9223372036854775807) (hN : NodesOk n P) (i j p q : Nat) (hij : i < j) (hjn : j < n) (hpq : p < q) (hqn : q < n) (w : World) (hr : Recs w 2 A n P) :
    Calls Tryz.prog 65 #[.slice A n c, .agg #[.int .i64 (i : Int), .int .i64 (j : Int)], .agg #[.int .i64 (p : Int), .int .i64 (q : Int)]] w fun e w' => e = .returned (.bool (crossB P i j p q)) ∧ Ext w w' := by
  obtain ⟨b, o, rfl, hb, _⟩ := hr.at2 hjn
  have hin : i < n := by omega
  have hpn : p < n := by omega
  obtain ⟨i0, i1⟩ := hr.cell2 hin
  obtain ⟨j0, j1⟩ := hr.cell2 hjn
  obtain ⟨p0, p1⟩ := hr.cell2 hpn
  obtain ⟨q0, q1⟩ := hr.cell2 hqn
  have HI := Lib.hid (⟨i0, i1⟩ : _ ∧ _)
  have HJ := Lib.hid (⟨j0, j1⟩ : _ ∧ _)
  have HP := Lib.hid (⟨p0, p1⟩ : _ ∧ _)
  have HQ := Lib.hid (⟨q0, q1⟩ : _ ∧ _)
  clear i0 i1 j0 j1 p0 p1 q0 q1
  have hE := run_eqNode
  have HN := Lib.hid hN
  clear hN
  have HL : Hid (∀ W, Ext w W → ∀ i j : Nat, i < j → j < n → Calls Tryz.prog 64 #[.slice (some ⟨b, o, none⟩) n c, .agg #[.int .i64 (i : Int), .int .i64 (j : Int)]] W fun e w' => e = .returned (.bool true) ∧ Ext W w') := Lib.hid (fun W X i j h1 h2 => by have q := spec_LeadOk (some ⟨b, o, none⟩) n c P i j hn HN.out W (hr.ext X); rwa [rngB_nat h1 h2] at q)
  have k1 : (0 : Int) ≤ (i : Int) := by omega
  have k2 : (i : Int) < (n : Int) := by omega
  have k3 : (0 : Int) ≤ (j : Int) := by omega
  have k4 : (j : Int) < (n : Int) := by omega
  have k5 : (0 : Int) ≤ (p : Int) := by omega
  have k6 : (p : Int) < (n : Int) := by omega
  have k7 : (0 : Int) ≤ (q : Int) := by omega
  have k8 : (q : Int) < (n : Int) := by omega
  go_enter Tryz.func65, Tryz.ntmps65
  go_wp2_with fail
  refine (HL.out _ ((Ext.refl _).alloc _ |>.alloc _) _ _ hij hjn).mono ?_
  rintro e w2 ⟨rfl, x2⟩
  have q00 := x2.cell (a := ⟨w.heap.size, 0, none⟩) (u := .int .i64 (i : Int)) (by simp [go_sem])
  have q01 := x2.cell (a := ⟨w.heap.size, 1, none⟩) (u := .int .i64 (j : Int)) (by simp [go_sem])
  have q10 := x2.cell (a := ⟨w.heap.size + 1, 0, none⟩) (u := .int .i64 (p : Int)) (by simp [go_sem])
  have q11 := x2.cell (a := ⟨w.heap.size + 1, 1, none⟩) (u := .int .i64 (q : Int)) (by simp [go_sem])
  have X2 := ((Ext.refl w).alloc _ |>.alloc _).trans x2
  clear x2
  go_wp2_with fail
  refine (HL.out _ X2 _ _ hpq hqn).mono ?_
  rintro e w3 ⟨rfl, x3⟩
  replace q00 := x3.cell q00
  replace q01 := x3.cell q01
  replace q10 := x3.cell q10
  replace q11 := x3.cell q11
  have X3 := X2.trans x3
  clear x3

  obtain ⟨i0, i1⟩ := HI.out
  replace i0 := X3.cell i0
  replace i1 := X3.cell i1
  obtain ⟨j0, j1⟩ := HJ.out
  replace j0 := X3.cell j0
  replace j1 := X3.cell j1
  obtain ⟨p0, p1⟩ := HP.out
  replace p0 := X3.cell p0
  replace p1 := X3.cell p1
  obtain ⟨q0, q1⟩ := HQ.out
  replace q0 := X3.cell q0
  replace q1 := X3.cell q1
  have z0 : w.heap.size < w3.heap.size := World.block_lt_of_cell? _ _ q00
  have z1 : w.heap.size + 1 < w3.heap.size := World.block_lt_of_cell? _ _ q10
  have z2 : b < w3.heap.size := World.block_lt_of_cell? _ _ i0
  have z3 : b < w3.heap.size + 1 := by omega
  have z4 : b < w3.heap.size + 1 + 1 := by omega
  go_upto_region 6 with fail
  go_cut [10] (fun s10 wx => s10 = .pointer (some ⟨w3.heap.size + 1 + 1 + 1, 0, none⟩) ∧ wx.cell? ⟨w3.heap.size, 0, none⟩ = some (.int .i64 (P i 0)) ∧ wx.cell? ⟨w3.heap.size, 1, none⟩ = some (.int .i64 (P i 1)) ∧ wx.cell? ⟨w3.heap.size + 1, 0, none⟩ = some (.int .i64 (P j 0)) ∧ wx.cell? ⟨w3.heap.size + 1, 1, none⟩ = some (.int .i64 (P j 1)) ∧ wx.cell? ⟨w3.heap.size + 1 + 1, 0, none⟩ = some (.int .i64 (P p 0)) ∧ wx.cell? ⟨w3.heap.size + 1 + 1, 1, none⟩ = some (.int .i64 (P p 1)) ∧ wx.cell? ⟨w3.heap.size + 1 + 1 + 1, 0, none⟩ = some (.int .i64 (P q 0)) ∧ wx.cell? ⟨w3.heap.size + 1 + 1 + 1, 1, none⟩ = some (.int .i64 (P q 1)) ∧ Ext w3 wx)
  case first =>
    go_wp2_with fail
    go_meet
    exact ⟨rfl, by simp [go_sem], by simp [go_sem], by simp [go_sem], by simp [go_sem], by simp [go_sem], by simp [go_sem], by simp [go_sem], by simp [go_sem], by repeat (first | exact Ext.refl _ | apply Ext.drew | apply Ext.alloc)⟩
  case rest =>
  obtain ⟨rfl, a0, a1, b0, b1, c0, c1, d0, d1, X4⟩ := hcut
  have X5 := X3.trans X4
  clear z0 z1 z2 z3 z4 X2 X3 X4 q00 q01 q10 q11 i0 i1 j0 j1 p0 p1 q0 q1
  have HB : Hid (∀ u v x : Nat, ∀ W, Calls Tryz.prog 75 #[.agg #[.int .i64 (P u 0), .int .i64 (P u 1)], .agg #[.int .i64 (P v 0), .int .i64 (P v 1)], .agg #[.int .i64 (P x 0), .int .i64 (P x 1)]] W fun e w' => e = .returned (.bool (betwB (P u 0) (P u 1) (P v 0) (P v 1) (P x 0) (P x 1))) ∧ Ext W w') := Lib.hid (fun u v x W => spec_IsBetween _ _ _ _ _ _ (hr.2 u 0) (hr.2 u 1) (hr.2 v 0) (hr.2 v 1) (hr.2 x 0) (hr.2 x 1) W)
  go_upto_region 7 with fail
  go_cut [62] (fun s wx => s = .bool (betw4 (P i 0) (P i 1) (P j 0) (P j 1) (P p 0) (P p 1) (P q 0) (P q 1)) ∧ Ext wc wx)
  case first =>
    have X7 := Ext.refl wc
    cases h0 : betwB (P i 0) (P i 1) (P j 0) (P j 1) (P p 0) (P p 1)
    case true =>
      go_wp2_with fail
      refine (HB.out i j p _).mono ?_
      rintro e w0 ⟨rfl, x0⟩
      rw [h0]
      replace a0 := x0.cell a0
      replace a1 := x0.cell a1
      replace b0 := x0.cell b0
      replace b1 := x0.cell b1
      replace c0 := x0.cell c0
      replace c1 := x0.cell c1
      replace d0 := x0.cell d0
      replace d1 := x0.cell d1
      replace X7 := X7.trans x0
      clear x0
      go_wp2_with fail
      go_meet
      exact ⟨by unfold betw4; rw [h0]; simp, X7⟩
    cases h1 : betwB (P i 0) (P i 1) (P j 0) (P j 1) (P q 0) (P q 1)
    case true =>
      go_wp2_with fail
      refine (HB.out i j p _).mono ?_
      rintro e w0 ⟨rfl, x0⟩
      rw [h0]
      replace a0 := x0.cell a0
      replace a1 := x0.cell a1
      replace b0 := x0.cell b0
      replace b1 := x0.cell b1
      replace c0 := x0.cell c0
      replace c1 := x0.cell c1
      replace d0 := x0.cell d0
      replace d1 := x0.cell d1
      replace X7 := X7.trans x0
      clear x0
      go_wp2_with fail
      refine (HB.out i j q _).mono ?_
      rintro e w1 ⟨rfl, x1⟩
      rw [h1]
      replace a0 := x1.cell a0
      replace a1 := x1.cell a1
      replace b0 := x1.cell b0
      replace b1 := x1.cell b1
      replace c0 := x1.cell c0
      replace c1 := x1.cell c1
      replace d0 := x1.cell d0
      replace d1 := x1.cell d1
      replace X7 := X7.trans x1
      clear x1
      go_wp2_with fail
      go_meet
      exact ⟨by unfold betw4; rw [h0, h1]; simp, X7⟩
    cases h2 : betwB (P p 0) (P p 1) (P q 0) (P q 1) (P i 0) (P i 1)
    case true =>
      go_wp2_with fail
      refine (HB.out i j p _).mono ?_
      rintro e w0 ⟨rfl, x0⟩
      rw [h0]
      replace a0 := x0.cell a0
      replace a1 := x0.cell a1
      replace b0 := x0.cell b0
      replace b1 := x0.cell b1
      replace c0 := x0.cell c0
      replace c1 := x0.cell c1
      replace d0 := x0.cell d0
      replace d1 := x0.cell d1
      replace X7 := X7.trans x0
      clear x0
      go_wp2_with fail
      refine (HB.out i j q _).mono ?_
      rintro e w1 ⟨rfl, x1⟩
      rw [h1]
      replace a0 := x1.cell a0
      replace a1 := x1.cell a1
      replace b0 := x1.cell b0
      replace b1 := x1.cell b1
      replace c0 := x1.cell c0
      replace c1 := x1.cell c1
      replace d0 := x1.cell d0
      replace d1 := x1.cell d1
      replace X7 := X7.trans x1
      clear x1
      go_wp2_with fail
      refine (HB.out p q i _).mono ?_
      rintro e w2 ⟨rfl, x2⟩
      rw [h2]
      replace a0 := x2.cell a0
      replace a1 := x2.cell a1
      replace b0 := x2.cell b0
      replace b1 := x2.cell b1
      replace c0 := x2.cell c0
      replace c1 := x2.cell c1
      replace d0 := x2.cell d0
      replace d1 := x2.cell d1
      replace X7 := X7.trans x2
      clear x2
      go_wp2_with fail
      go_meet
      exact ⟨by unfold betw4; rw [h0, h1, h2]; simp, X7⟩
    cases h3 : betwB (P p 0) (P p 1) (P q 0) (P q 1) (P j 0) (P j 1)
    case true =>
      go_wp2_with fail
      refine (HB.out i j p _).mono ?_
      rintro e w0 ⟨rfl, x0⟩
      rw [h0]
      replace a0 := x0.cell a0
      replace a1 := x0.cell a1
      replace b0 := x0.cell b0
      replace b1 := x0.cell b1
      replace c0 := x0.cell c0
      replace c1 := x0.cell c1
      replace d0 := x0.cell d0
      replace d1 := x0.cell d1
      replace X7 := X7.trans x0
      clear x0
      go_wp2_with fail
      refine (HB.out i j q _).mono ?_
      rintro e w1 ⟨rfl, x1⟩
      rw [h1]
      replace a0 := x1.cell a0
      replace a1 := x1.cell a1
      replace b0 := x1.cell b0
      replace b1 := x1.cell b1
      replace c0 := x1.cell c0
      replace c1 := x1.cell c1
      replace d0 := x1.cell d0
      replace d1 := x1.cell d1
      replace X7 := X7.trans x1
      clear x1
      go_wp2_with fail
      refine (HB.out p q i _).mono ?_
      rintro e w2 ⟨rfl, x2⟩
      rw [h2]
      replace a0 := x2.cell a0
      replace a1 := x2.cell a1
      replace b0 := x2.cell b0
      replace b1 := x2.cell b1
      replace c0 := x2.cell c0
      replace c1 := x2.cell c1
      replace d0 := x2.cell d0
      replace d1 := x2.cell d1
      replace X7 := X7.trans x2
      clear x2
      go_wp2_with fail
      refine (HB.out p q j _).mono ?_
      rintro e w3 ⟨rfl, x3⟩
      rw [h3]
      replace a0 := x3.cell a0
      replace a1 := x3.cell a1
      replace b0 := x3.cell b0
      replace b1 := x3.cell b1
      replace c0 := x3.cell c0
      replace c1 := x3.cell c1
      replace d0 := x3.cell d0
      replace d1 := x3.cell d1
      replace X7 := X7.trans x3
      clear x3
      go_wp2_with fail
      go_meet
      exact ⟨by unfold betw4; rw [h0, h1, h2, h3]; simp, X7⟩
    go_wp2_with fail
    refine (HB.out i j p _).mono ?_
    rintro e w0 ⟨rfl, x0⟩
    rw [h0]
    replace a0 := x0.cell a0
    replace a1 := x0.cell a1
    replace b0 := x0.cell b0
    replace b1 := x0.cell b1
    replace c0 := x0.cell c0
    replace c1 := x0.cell c1
    replace d0 := x0.cell d0
    replace d1 := x0.cell d1
    replace X7 := X7.trans x0
    clear x0
    go_wp2_with fail
    refine (HB.out i j q _).mono ?_
    rintro e w1 ⟨rfl, x1⟩
    rw [h1]
    replace a0 := x1.cell a0
    replace a1 := x1.cell a1
    replace b0 := x1.cell b0
    replace b1 := x1.cell b1
    replace c0 := x1.cell c0
    replace c1 := x1.cell c1
    replace d0 := x1.cell d0
    replace d1 := x1.cell d1
    replace X7 := X7.trans x1
    clear x1
    go_wp2_with fail
    refine (HB.out p q i _).mono ?_
    rintro e w2 ⟨rfl, x2⟩
    rw [h2]
    replace a0 := x2.cell a0
    replace a1 := x2.cell a1
    replace b0 := x2.cell b0
    replace b1 := x2.cell b1
    replace c0 := x2.cell c0
    replace c1 := x2.cell c1
    replace d0 := x2.cell d0
    replace d1 := x2.cell d1
    replace X7 := X7.trans x2
    clear x2
    go_wp2_with fail
    refine (HB.out p q j _).mono ?_
    rintro e w3 ⟨rfl, x3⟩
    rw [h3]
    replace a0 := x3.cell a0
    replace a1 := x3.cell a1
    replace b0 := x3.cell b0
    replace b1 := x3.cell b1
    replace c0 := x3.cell c0
    replace c1 := x3.cell c1
    replace d0 := x3.cell d0
    replace d1 := x3.cell d1
    replace X7 := X7.trans x3
    clear x3
    go_wp2_with fail
    go_meet
    exact ⟨by unfold betw4; rw [h0, h1, h2, h3]; rfl, X7⟩
  case rest =>
  obtain ⟨rfl, X8⟩ := hcut
  replace a0 := X8.cell a0
  replace a1 := X8.cell a1
  replace b0 := X8.cell b0
  replace b1 := X8.cell b1
  replace c0 := X8.cell c0
  replace c1 := X8.cell c1
  replace d0 := X8.cell d0
  replace d1 := X8.cell d1
  replace X5 := X5.trans X8
  clear X8
  cases hb4 : betw4 (P i 0) (P i 1) (P j 0) (P j 1) (P p 0) (P p 1) (P q 0) (P q 1)
  case true =>
    have HR : Hid (crossB P i j p q = true) := Lib.hid (by unfold crossB; rw [hb4]; simp)
    clear hb4
    go_wp2
    go_ret
    exact ⟨congrArg (fun z => Ending.returned (.bool z)) HR.out.symm, X5⟩
  have HR1 : Hid (crossB P i j p q = (decide (i = p ∧ j = q) || apart4 (P i 0) (P i 1) (P j 0) (P j 1) (P p 0) (P p 1) (P q 0) (P q 1))) := Lib.hid (by unfold crossB; rw [hb4]; simp)
  clear hb4
  go_upto_region 9 with fail
  go_cut [80] (fun s wx => s = .bool (decide (i = p ∧ j = q)) ∧ wx = wc)
  case first =>
    have hcs : (i = p ∧ j = q) ∨ (i = p ∧ j ≠ q) ∨ (i ≠ p ∧ i = q) ∨ (i ≠ p ∧ i ≠ q) := by omega
    rcases hcs with hcs | hcs | hcs | hcs
    · have hac : ptEq (P i 0) (P i 1) (P p 0) (P p 1) = true := by rw [HN.out.eq hin hpn]; simp; omega
      have hbd : ptEq (P j 0) (P j 1) (P q 0) (P q 1) = true := by rw [HN.out.eq hjn hqn]; simp; omega
      have HC := Lib.hid hcs
      clear hcs
      go_wp2
      go_meet
      exact ⟨by have hcs := HC.out; simp; omega, rfl⟩
    · have hac : ptEq (P i 0) (P i 1) (P p 0) (P p 1) = true := by rw [HN.out.eq hin hpn]; simp; omega
      have hbd : ptEq (P j 0) (P j 1) (P q 0) (P q 1) = false := by rw [HN.out.eq hjn hqn]; simp; omega
      have had : ptEq (P i 0) (P i 1) (P q 0) (P q 1) = false := by rw [HN.out.eq hin hqn]; simp; omega
      have HC := Lib.hid hcs
      clear hcs
      go_wp2
      go_meet
      exact ⟨by have hcs := HC.out; simp; omega, rfl⟩
    · have hac : ptEq (P i 0) (P i 1) (P p 0) (P p 1) = false := by rw [HN.out.eq hin hpn]; simp; omega
      have had : ptEq (P i 0) (P i 1) (P q 0) (P q 1) = true := by rw [HN.out.eq hin hqn]; simp; omega
      have hbc : ptEq (P j 0) (P j 1) (P p 0) (P p 1) = false := by rw [HN.out.eq hjn hpn]; simp; omega
      have HC := Lib.hid hcs
      clear hcs
      go_wp2
      go_meet
      exact ⟨by have hcs := HC.out; simp; omega, rfl⟩
    · have hac : ptEq (P i 0) (P i 1) (P p 0) (P p 1) = false := by rw [HN.out.eq hin hpn]; simp; omega
      have had : ptEq (P i 0) (P i 1) (P q 0) (P q 1) = false := by rw [HN.out.eq hin hqn]; simp; omega
      have HC := Lib.hid hcs
      clear hcs
      go_wp2
      go_meet
      exact ⟨by have hcs := HC.out; simp; omega, rfl⟩
  case rest =>
  obtain ⟨rfl, rfl⟩ := hcut
  by_cases hsm : i = p ∧ j = q
  · have hsd : decide (i = p ∧ j = q) = true := by simpa using hsm
    have HR : Hid (crossB P i j p q = true) := Lib.hid (by rw [HR1.out, hsd]; rfl)
    rw [hsd]
    clear hsm hsd
    go_wp2
    go_ret
    exact ⟨congrArg (fun z => Ending.returned (.bool z)) HR.out.symm, X5⟩
  have hsd : decide (i = p ∧ j = q) = false := by simpa using hsm
  have HR0 : Hid (crossB P i j p q = apart4 (P i 0) (P i 1) (P j 0) (P j 1) (P p 0) (P p 1) (P q 0) (P q 1)) := Lib.hid (by rw [HR1.out, hsd]; rfl)
  rw [hsd]
  have HSM := Lib.hid hsm
  clear hsm hsd
  go_upto_region 11 with fail
  go_cut [98] (fun s wx => s = .bool (decide (i = p ∨ i = q ∨ j = p ∨ j = q)) ∧ wx = wc)
  case first =>
    have hcs : i = p ∨ (i ≠ p ∧ i = q) ∨ (i ≠ p ∧ i ≠ q ∧ j = p) ∨ (i ≠ p ∧ i ≠ q ∧ j ≠ p ∧ j = q) ∨ (i ≠ p ∧ i ≠ q ∧ j ≠ p ∧ j ≠ q) := by omega
    rcases hcs with hcs | hcs | hcs | hcs | hcs
    · have hac : ptEq (P i 0) (P i 1) (P p 0) (P p 1) = true := by rw [HN.out.eq hin hpn]; simp; omega
      have HC := Lib.hid hcs
      clear hcs
      go_wp2
      go_meet
      exact ⟨by have hcs := HC.out; simp; omega, rfl⟩
    · have hac : ptEq (P i 0) (P i 1) (P p 0) (P p 1) = false := by rw [HN.out.eq hin hpn]; simp; omega
      have had : ptEq (P i 0) (P i 1) (P q 0) (P q 1) = true := by rw [HN.out.eq hin hqn]; simp; omega
      have HC := Lib.hid hcs
      clear hcs
      go_wp2
      go_meet
      exact ⟨by have hcs := HC.out; simp; omega, rfl⟩
    · have hac : ptEq (P i 0) (P i 1) (P p 0) (P p 1) = false := by rw [HN.out.eq hin hpn]; simp; omega
      have had : ptEq (P i 0) (P i 1) (P q 0) (P q 1) = false := by rw [HN.out.eq hin hqn]; simp; omega
      have hbc : ptEq (P j 0) (P j 1) (P p 0) (P p 1) = true := by rw [HN.out.eq hjn hpn]; simp; omega
      have HC := Lib.hid hcs
      clear hcs
      go_wp2
      go_meet
      exact ⟨by have hcs := HC.out; simp; omega, rfl⟩
    · have hac : ptEq (P i 0) (P i 1) (P p 0) (P p 1) = false := by rw [HN.out.eq hin hpn]; simp; omega
      have had : ptEq (P i 0) (P i 1) (P q 0) (P q 1) = false := by rw [HN.out.eq hin hqn]; simp; omega
      have hbc : ptEq (P j 0) (P j 1) (P p 0) (P p 1) = false := by rw [HN.out.eq hjn hpn]; simp; omega
      have hbd : ptEq (P j 0) (P j 1) (P q 0) (P q 1) = true := by rw [HN.out.eq hjn hqn]; simp; omega
      have HC := Lib.hid hcs
      clear hcs
      go_wp2
      go_meet
      exact ⟨by have hcs := HC.out; simp; omega, rfl⟩
    · have hac : ptEq (P i 0) (P i 1) (P p 0) (P p 1) = false := by rw [HN.out.eq hin hpn]; simp; omega
      have had : ptEq (P i 0) (P i 1) (P q 0) (P q 1) = false := by rw [HN.out.eq hin hqn]; simp; omega
      have hbc : ptEq (P j 0) (P j 1) (P p 0) (P p 1) = false := by rw [HN.out.eq hjn hpn]; simp; omega
      have hbd : ptEq (P j 0) (P j 1) (P q 0) (P q 1) = false := by rw [HN.out.eq hjn hqn]; simp; omega
      have HC := Lib.hid hcs
      clear hcs
      go_wp2
      go_meet
      exact ⟨by have hcs := HC.out; simp; omega, rfl⟩
  case rest =>
  obtain ⟨rfl, rfl⟩ := hcut
  cases hsh : decide (i = p ∨ i = q ∨ j = p ∨ j = q)
  case true =>
    have HR : Hid (crossB P i j p q = false) := Lib.hid (by rw [HR0.out]; exact apart_share (by simpa using hsh))
    clear hsh
    go_wp2
    go_ret
    exact ⟨congrArg (fun z => Ending.returned (.bool z)) HR.out.symm, X5⟩
  clear hsh
  have HT : Hid (∀ u v x : Nat, u < n → v < n → x < n → ∀ W, Calls Tryz.prog 77 #[.agg #[.int .i64 (P u 0), .int .i64 (P u 1)], .agg #[.int .i64 (P v 0), .int .i64 (P v 1)], .agg #[.int .i64 (P x 0), .int .i64 (P x 1)]] W fun e w' => e = .returned (.int .i64 (trn (P u 0) (P u 1) (P v 0) (P v 1) (P x 0) (P x 1))) ∧ Ext W w') := Lib.hid (fun u v x hu hv hx W => spec_l02Turn _ _ _ _ _ _ (HN.out.1 u hu) (HN.out.1 v hv) (HN.out.1 x hx) W)
  have S0 := sgn_bd (trn (P i 0) (P i 1) (P j 0) (P j 1) (P p 0) (P p 1))
  have S1 := sgn_bd (trn (P i 0) (P i 1) (P j 0) (P j 1) (P q 0) (P q 1))
  have S2 := sgn_bd (trn (P p 0) (P p 1) (P q 0) (P q 1) (P i 0) (P i 1))
  have S3 := sgn_bd (trn (P p 0) (P p 1) (P q 0) (P q 1) (P j 0) (P j 1))
  have N0 := prod_bd (a := sgn (trn (P i 0) (P i 1) (P j 0) (P j 1) (P p 0) (P p 1))) (b := sgn (trn (P i 0) (P i 1) (P j 0) (P j 1) (P q 0) (P q 1))) (by omega) (by omega)
  have N1 := prod_bd (a := sgn (trn (P p 0) (P p 1) (P q 0) (P q 1) (P i 0) (P i 1))) (b := sgn (trn (P p 0) (P p 1) (P q 0) (P q 1) (P j 0) (P j 1))) (by omega) (by omega)
  have W0 : IntKind.i64.wrap (sgn (trn (P i 0) (P i 1) (P j 0) (P j 1) (P p 0) (P p 1)) * sgn (trn (P i 0) (P i 1) (P j 0) (P j 1) (P q 0) (P q 1))) = sgn (trn (P i 0) (P i 1) (P j 0) (P j 1) (P p 0) (P p 1)) * sgn (trn (P i 0) (P i 1) (P j 0) (P j 1) (P q 0) (P q 1)) := IntWalk.i64_in _ ⟨by omega, by omega⟩
  have W1 : IntKind.i64.wrap (sgn (trn (P p 0) (P p 1) (P q 0) (P q 1) (P i 0) (P i 1)) * sgn (trn (P p 0) (P p 1) (P q 0) (P q 1) (P j 0) (P j 1))) = sgn (trn (P p 0) (P p 1) (P q 0) (P q 1) (P i 0) (P i 1)) * sgn (trn (P p 0) (P p 1) (P q 0) (P q 1) (P j 0) (P j 1)) := IntWalk.i64_in _ ⟨by omega, by omega⟩
  have E0 : Hid (decide (sgn (trn (P i 0) (P i 1) (P j 0) (P j 1) (P p 0) (P p 1)) * sgn (trn (P i 0) (P i 1) (P j 0) (P j 1) (P q 0) (P q 1)) < 0) = decide (trn (P i 0) (P i 1) (P j 0) (P j 1) (P p 0) (P p 1) * trn (P i 0) (P i 1) (P j 0) (P j 1) (P q 0) (P q 1) < 0)) := Lib.hid (decide_eq_decide.2 (sgn_mul (trn (P i 0) (P i 1) (P j 0) (P j 1) (P p 0) (P p 1)) (trn (P i 0) (P i 1) (P j 0) (P j 1) (P q 0) (P q 1))))
  have E1 : Hid (decide (sgn (trn (P p 0) (P p 1) (P q 0) (P q 1) (P i 0) (P i 1)) * sgn (trn (P p 0) (P p 1) (P q 0) (P q 1) (P j 0) (P j 1)) < 0) = decide (trn (P p 0) (P p 1) (P q 0) (P q 1) (P i 0) (P i 1) * trn (P p 0) (P p 1) (P q 0) (P q 1) (P j 0) (P j 1) < 0)) := Lib.hid (decide_eq_decide.2 (sgn_mul (trn (P p 0) (P p 1) (P q 0) (P q 1) (P i 0) (P i 1)) (trn (P p 0) (P p 1) (P q 0) (P q 1) (P j 0) (P j 1))))
  clear S0 S1 S2 S3 N0 N1
  cases d0 : decide (sgn (trn (P i 0) (P i 1) (P j 0) (P j 1) (P p 0) (P p 1)) * sgn (trn (P i 0) (P i 1) (P j 0) (P j 1) (P q 0) (P q 1)) < 0)
  case false =>
    have HR : Hid (crossB P i j p q = false) := Lib.hid (by rw [HR0.out]; unfold apart4; rw [← E0.out, d0]; rfl)
    go_wp2
    first | refine wp_region_gr2 (by kernel_rfl) (by kernel_rfl) ?_ | refine wp_region_gr (by kernel_rfl) (by kernel_rfl) ?_
    repeat (go_big_quiet_step ((first | (go_at_call 77; exact gr_of (HT.out _ _ _ (by assumption) (by assumption) (by assumption) _)) | (go_at_call 76; exact gr_of (spec_l03Sign _ _)))))
    refine wpQuiet_nil ?_
    intro _ hw'
    obtain ⟨gq, hw''⟩ := hw'
    subst hw''
    go_wp2
    go_ret
    exact ⟨congrArg (fun z => Ending.returned (.bool z)) HR.out.symm, X5.trans (by repeat (first | exact Ext.refl _ | exact Ext.gr _ _ | apply Ext.wgr | apply Ext.drew | apply Ext.drewN | apply Ext.alloc))⟩
  cases d1 : decide (sgn (trn (P p 0) (P p 1) (P q 0) (P q 1) (P i 0) (P i 1)) * sgn (trn (P p 0) (P p 1) (P q 0) (P q 1) (P j 0) (P j 1)) < 0)
  case false =>
    have HR : Hid (crossB P i j p q = false) := Lib.hid (by rw [HR0.out]; unfold apart4; rw [← E0.out, d0, ← E1.out, d1]; rfl)
    go_wp2
    first | refine wp_region_gr2 (by kernel_rfl) (by kernel_rfl) ?_ | refine wp_region_gr (by kernel_rfl) (by kernel_rfl) ?_
    repeat (go_big_quiet_step ((first | (go_at_call 77; exact gr_of (HT.out _ _ _ (by assumption) (by assumption) (by assumption) _)) | (go_at_call 76; exact gr_of (spec_l03Sign _ _)))))
    refine wpQuiet_nil ?_
    intro _ hw'
    obtain ⟨gq, hw''⟩ := hw'
    subst hw''
    go_wp2
    go_ret
    exact ⟨congrArg (fun z => Ending.returned (.bool z)) HR.out.symm, X5.trans (by repeat (first | exact Ext.refl _ | exact Ext.gr _ _ | apply Ext.wgr | apply Ext.drew | apply Ext.drewN | apply Ext.alloc))⟩
  case true =>
    have HR : Hid (crossB P i j p q = true) := Lib.hid (by rw [HR0.out]; unfold apart4; rw [← E0.out, d0, ← E1.out, d1]; rfl)
    go_wp2
    first | refine wp_region_gr2 (by kernel_rfl) (by kernel_rfl) ?_ | refine wp_region_gr (by kernel_rfl) (by kernel_rfl) ?_
    repeat (go_big_quiet_step ((first | (go_at_call 77; exact gr_of (HT.out _ _ _ (by assumption) (by assumption) (by assumption) _)) | (go_at_call 76; exact gr_of (spec_l03Sign _ _)))))
    refine wpQuiet_nil ?_
    intro _ hw'
    obtain ⟨gq, hw''⟩ := hw'
    subst hw''
    go_wp2
    go_ret
    exact ⟨congrArg (fun z => Ending.returned (.bool z)) HR.out.symm, X5.trans (by repeat (first | exact Ext.refl _ | exact Ext.gr _ _ | apply Ext.wgr | apply Ext.drew | apply Ext.drewN | apply Ext.alloc))⟩

end Go.Proofs.YtgmhmlhdiklaaaaGreatDoor
