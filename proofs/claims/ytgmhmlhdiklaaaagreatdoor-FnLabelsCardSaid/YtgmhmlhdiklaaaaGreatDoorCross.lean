/-
  Contract of the program's test whether two leads cross. No conditions.
-/
import Derived.Test.YtgmhmlhdiklaaaaGreatDoorSpecLead
import Derived.Test.YtgmhmlhdiklaaaaGreatDoorSpecBetween
import Derived.Deep.DeepCutAuto
namespace Go.Proofs.YtgmhmlhdiklaaaaGreatDoor
open Go.RowKit
set_option linter.unusedVariables false

def betw4 (a0 a1 b0 b1 c0 c1 d0 d1 : Int) : Bool := ((betwB a0 a1 b0 b1 c0 c1 || betwB a0 a1 b0 b1 d0 d1) || betwB c0 c1 d0 d1 a0 a1) || betwB c0 c1 d0 d1 b0 b1
def apart4 (a0 a1 b0 b1 c0 c1 d0 d1 : Int) : Bool := decide (trn a0 a1 b0 b1 c0 c1 * trn a0 a1 b0 b1 d0 d1 < 0) && decide (trn c0 c1 d0 d1 a0 a1 * trn c0 c1 d0 d1 b0 b1 < 0)
/-- Do the leads i j and p q cross? -/
def crossB (P : Nat → Nat → Int) (i j p q : Nat) : Bool :=
  decide (i = p ∧ j = q) || betw4 (P i 0) (P i 1) (P j 0) (P j 1) (P p 0) (P p 1) (P q 0) (P q 1) || apart4 (P i 0) (P i 1) (P j 0) (P j 1) (P p 0) (P p 1) (P q 0) (P q 1)
/-- The value v points to a node. -/
def At2 (w : World) (v : Value) (x y : Int) : Prop := ∃ g, v = .pointer (some ⟨g, 0, none⟩) ∧ w.cell? ⟨g, 0, none⟩ = some (.int .i64 x) ∧ w.cell? ⟨g, 1, none⟩ = some (.int .i64 y)
theorem At2.ext {w w' : World} {v : Value} {x y : Int} (h : At2 w v x y) (X : Ext w w') : At2 w' v x y := by
  obtain ⟨g, e, h0, h1⟩ := h
  exact ⟨g, e, X.cell h0, X.cell h1⟩
theorem trn_bd {a0 a1 b0 b1 c0 c1 : Int} (ha : nodeB a0 a1 = true) (hb : nodeB b0 b1 = true) (hc : nodeB c0 c1 = true) : -800 ≤ trn a0 a1 b0 b1 c0 c1 ∧ trn a0 a1 b0 b1 c0 c1 ≤ 800 := by
  have := trn_box ha hb hc
  unfold trn
  omega
theorem prod_bd {a b : Int} (h1 : -800 ≤ a ∧ a ≤ 800) (h2 : -800 ≤ b ∧ b ≤ 800) : -640000 ≤ a * b ∧ a * b ≤ 640000 := by
  have e1 : 0 ≤ (800 - a) * (800 + b) := Int.mul_nonneg (by omega) (by omega)
  have e2 : 0 ≤ (800 + a) * (800 - b) := Int.mul_nonneg (by omega) (by omega)
  have e3 : 0 ≤ (800 - a) * (800 - b) := Int.mul_nonneg (by omega) (by omega)
  have e4 : 0 ≤ (800 + a) * (800 + b) := Int.mul_nonneg (by omega) (by omega)
  simp only [Int.sub_mul, Int.add_mul, Int.mul_sub, Int.mul_add] at e1 e2 e3 e4
  omega

set_option maxRecDepth 100000 in
set_option maxHeartbeats 8000000 in
theorem impl_DoCross (A : Option Addr) (n c : Nat) (P : Nat → Nat → Int) (hn : n ≤ 9223372036854775807) (hN : NodesOk n P) (i j p q : Nat) (hij : i < j) (hjn : j < n) (hpq : p < q) (hqn : q < n) (w : World) (hr : Recs w 2 A n P) :
    Calls Tryz.prog 56 #[.slice A n c, .agg #[.int .i64 (i : Int), .int .i64 (j : Int)], .agg #[.int .i64 (p : Int), .int .i64 (q : Int)]] w fun e w' => e = .returned (.bool (crossB P i j p q)) ∧ Ext w w' := by
  obtain ⟨b, o, rfl, hb, _⟩ := hr.at2 hjn
  have hin : i < n := by omega
  have hpn : p < n := by omega
  obtain ⟨i0, i1⟩ := hr.cell2 hin
  obtain ⟨j0, j1⟩ := hr.cell2 hjn
  obtain ⟨p0, p1⟩ := hr.cell2 hpn
  obtain ⟨q0, q1⟩ := hr.cell2 hqn
  have HI := Lib.hid (⟨i0, i1⟩ : _ ∧ _)
  have HJ := Lib.hid (⟨j0, j1⟩ : _ ∧ _)
  have HP := Lib.hid (⟨p0, p1⟩ : _ ∧ _)
  have HQ := Lib.hid (⟨q0, q1⟩ : _ ∧ _)
  clear i0 i1 j0 j1 p0 p1 q0 q1
  have hE := run_eqNode
  have HN := Lib.hid hN
  clear hN
  have HL : Hid (∀ W, Ext w W → ∀ i j : Nat, i < j → j < n → Calls Tryz.prog 55 #[.slice (some ⟨b, o, none⟩) n c, .agg #[.int .i64 (i : Int), .int .i64 (j : Int)]] W fun e w' => e = .returned (.bool true) ∧ Ext W w') := Lib.hid (fun W X i j h1 h2 => by have q := impl_LeadOk (some ⟨b, o, none⟩) n c P i j hn HN.out W (hr.ext X); rwa [rngB_nat h1 h2] at q)
  have k1 : (0 : Int) ≤ (i : Int) := by omega
  have k2 : (i : Int) < (n : Int) := by omega
  have k3 : (0 : Int) ≤ (j : Int) := by omega
  have k4 : (j : Int) < (n : Int) := by omega
  have k5 : (0 : Int) ≤ (p : Int) := by omega
  have k6 : (p : Int) < (n : Int) := by omega
  have k7 : (0 : Int) ≤ (q : Int) := by omega
  have k8 : (q : Int) < (n : Int) := by omega
  go_enter Tryz.func56, Tryz.ntmps56
  go_wp2_with fail
  refine (HL.out _ ((Ext.refl _).alloc _ |>.alloc _) _ _ hij hjn).mono ?_
  rintro e w2 ⟨rfl, x2⟩
  have q00 := x2.cell (a := ⟨w.heap.size, 0, none⟩) (u := .int .i64 (i : Int)) (by simp [go_sem])
  have q01 := x2.cell (a := ⟨w.heap.size, 1, none⟩) (u := .int .i64 (j : Int)) (by simp [go_sem])
  have q10 := x2.cell (a := ⟨w.heap.size + 1, 0, none⟩) (u := .int .i64 (p : Int)) (by simp [go_sem])
  have q11 := x2.cell (a := ⟨w.heap.size + 1, 1, none⟩) (u := .int .i64 (q : Int)) (by simp [go_sem])
  have X2 := ((Ext.refl w).alloc _ |>.alloc _).trans x2
  clear x2
  go_wp2_with fail
  refine (HL.out _ X2 _ _ hpq hqn).mono ?_
  rintro e w3 ⟨rfl, x3⟩
  replace q00 := x3.cell q00
  replace q01 := x3.cell q01
  replace q10 := x3.cell q10
  replace q11 := x3.cell q11
  have X3 := X2.trans x3
  clear x3
  go_wp2_with fail
  obtain ⟨i0, i1⟩ := HI.out
  replace i0 := X3.cell i0
  replace i1 := X3.cell i1
  obtain ⟨j0, j1⟩ := HJ.out
  replace j0 := X3.cell j0
  replace j1 := X3.cell j1
  obtain ⟨p0, p1⟩ := HP.out
  replace p0 := X3.cell p0
  replace p1 := X3.cell p1
  obtain ⟨q0, q1⟩ := HQ.out
  replace q0 := X3.cell q0
  replace q1 := X3.cell q1
  go_cut [7, 8] (fun s7 s8 wx => At2 wx s7 (P i 0) (P i 1) ∧ At2 wx s8 (P j 0) (P j 1) ∧ Ext w3 wx)
  case first =>
    go_region_held3 (fun w' => w'.cell? ⟨w.heap.size, 0, none⟩ = some (.int .i64 (i : Int)) ∧ w'.cell? ⟨w.heap.size, 1, none⟩ = some (.int .i64 (j : Int)) ∧ w'.cell? ⟨b, o + i * 2, none⟩ = some (.int .i64 (P i 0)) ∧ w'.cell? ⟨b, o + i * 2 + 1, none⟩ = some (.int .i64 (P i 1)) ∧ w'.cell? ⟨b, o + j * 2, none⟩ = some (.int .i64 (P j 0)) ∧ w'.cell? ⟨b, o + j * 2 + 1, none⟩ = some (.int .i64 (P j 1))) (go_keep) (fail)
    all_goals (go_wp2_with fail; go_meet; exact ⟨⟨_, rfl, by simp, by simp⟩, ⟨_, rfl, by simp, by simp⟩, by repeat (first | exact Ext.refl _ | apply Ext.drew | apply Ext.alloc)⟩)
  case rest =>
  obtain ⟨⟨g7, rfl, a0, a1⟩, ⟨g8, rfl, b0, b1⟩, X4⟩ := hcut
  replace q00 := X4.cell q00
  replace q01 := X4.cell q01
  replace q10 := X4.cell q10
  replace q11 := X4.cell q11
  replace p0 := X4.cell p0
  replace p1 := X4.cell p1
  replace q0 := X4.cell q0
  replace q1 := X4.cell q1
  have X5 := X3.trans X4
  clear X2 X3 X4 q00 q01 i0 i1 j0 j1
  go_upto_region 4 with fail
  go_cut [9, 10] (fun s9 s10 wx => At2 wx s9 (P p 0) (P p 1) ∧ At2 wx s10 (P q 0) (P q 1) ∧ Ext wc wx)
  case first =>
    go_region_held3 (fun w' => w'.cell? ⟨w.heap.size + 1, 0, none⟩ = some (.int .i64 (p : Int)) ∧ w'.cell? ⟨w.heap.size + 1, 1, none⟩ = some (.int .i64 (q : Int)) ∧ w'.cell? ⟨b, o + p * 2, none⟩ = some (.int .i64 (P p 0)) ∧ w'.cell? ⟨b, o + p * 2 + 1, none⟩ = some (.int .i64 (P p 1)) ∧ w'.cell? ⟨b, o + q * 2, none⟩ = some (.int .i64 (P q 0)) ∧ w'.cell? ⟨b, o + q * 2 + 1, none⟩ = some (.int .i64 (P q 1))) (go_keep) (fail)
    all_goals (go_wp2_with fail; go_meet; exact ⟨⟨_, rfl, by simp, by simp⟩, ⟨_, rfl, by simp, by simp⟩, by repeat (first | exact Ext.refl _ | apply Ext.drew | apply Ext.alloc)⟩)
  case rest =>
  obtain ⟨⟨g9, rfl, c0, c1⟩, ⟨g10, rfl, d0, d1⟩, X6⟩ := hcut
  replace a0 := X6.cell a0
  replace a1 := X6.cell a1
  replace b0 := X6.cell b0
  replace b1 := X6.cell b1
  replace X5 := X5.trans X6
  clear X6 q10 q11 p0 p1 q0 q1
  go_upto_region 5 with fail
  go_cut [58] (fun s wx => s = .bool (decide (i = p ∧ j = q)) ∧ wx = wc)
  case first =>
    have hcs : (i = p ∧ j = q) ∨ (i = p ∧ j ≠ q) ∨ (i ≠ p ∧ i = q) ∨ (i ≠ p ∧ i ≠ q) := by omega
    rcases hcs with hcs | hcs | hcs | hcs
    · have hac : ptEq (P i 0) (P i 1) (P p 0) (P p 1) = true := by rw [HN.out.eq hin hpn]; simp; omega
      have hbd : ptEq (P j 0) (P j 1) (P q 0) (P q 1) = true := by rw [HN.out.eq hjn hqn]; simp; omega
      have HC := Lib.hid hcs
      clear hcs
      go_wp2
      go_meet
      exact ⟨by have hcs := HC.out; simp; omega, rfl⟩
    · have hac : ptEq (P i 0) (P i 1) (P p 0) (P p 1) = true := by rw [HN.out.eq hin hpn]; simp; omega
      have hbd : ptEq (P j 0) (P j 1) (P q 0) (P q 1) = false := by rw [HN.out.eq hjn hqn]; simp; omega
      have had : ptEq (P i 0) (P i 1) (P q 0) (P q 1) = false := by rw [HN.out.eq hin hqn]; simp; omega
      have HC := Lib.hid hcs
      clear hcs
      go_wp2
      go_meet
      exact ⟨by have hcs := HC.out; simp; omega, rfl⟩
    · have hac : ptEq (P i 0) (P i 1) (P p 0) (P p 1) = false := by rw [HN.out.eq hin hpn]; simp; omega
      have had : ptEq (P i 0) (P i 1) (P q 0) (P q 1) = true := by rw [HN.out.eq hin hqn]; simp; omega
      have hbc : ptEq (P j 0) (P j 1) (P p 0) (P p 1) = false := by rw [HN.out.eq hjn hpn]; simp; omega
      have HC := Lib.hid hcs
      clear hcs
      go_wp2
      go_meet
      exact ⟨by have hcs := HC.out; simp; omega, rfl⟩
    · have hac : ptEq (P i 0) (P i 1) (P p 0) (P p 1) = false := by rw [HN.out.eq hin hpn]; simp; omega
      have had : ptEq (P i 0) (P i 1) (P q 0) (P q 1) = false := by rw [HN.out.eq hin hqn]; simp; omega
      have HC := Lib.hid hcs
      clear hcs
      go_wp2
      go_meet
      exact ⟨by have hcs := HC.out; simp; omega, rfl⟩
  case rest =>
  obtain ⟨rfl, rfl⟩ := hcut
  by_cases hsm : i = p ∧ j = q
  · have hsd : decide (i = p ∧ j = q) = true := by simpa using hsm
    have HR : Hid (crossB P i j p q = true) := Lib.hid (by unfold crossB; rw [hsd]; rfl)
    rw [hsd]
    clear hsm hsd
    go_wp2
    go_ret
    exact ⟨congrArg (fun z => Ending.returned (.bool z)) HR.out.symm, X5⟩
  have hsd : decide (i = p ∧ j = q) = false := by simpa using hsm
  have HR0 : Hid (crossB P i j p q = (betw4 (P i 0) (P i 1) (P j 0) (P j 1) (P p 0) (P p 1) (P q 0) (P q 1) || apart4 (P i 0) (P i 1) (P j 0) (P j 1) (P p 0) (P p 1) (P q 0) (P q 1))) := Lib.hid (by unfold crossB; rw [hsd]; rfl)
  rw [hsd]
  have HSM := Lib.hid hsm
  clear hsm hsd
  have HB : Hid (∀ u v x : Nat, ∀ W, Calls Tryz.prog 71 #[.agg #[.int .i64 (P u 0), .int .i64 (P u 1)], .agg #[.int .i64 (P v 0), .int .i64 (P v 1)], .agg #[.int .i64 (P x 0), .int .i64 (P x 1)]] W fun e w' => e = .returned (.bool (betwB (P u 0) (P u 1) (P v 0) (P v 1) (P x 0) (P x 1))) ∧ Ext W w') := Lib.hid (fun u v x W => impl_IsBetween _ _ _ _ _ _ (hr.2 u 0) (hr.2 u 1) (hr.2 v 0) (hr.2 v 1) (hr.2 x 0) (hr.2 x 1) W)
  go_upto_region 7 with fail
  go_cut [80] (fun s wx => s = .bool (betw4 (P i 0) (P i 1) (P j 0) (P j 1) (P p 0) (P p 1) (P q 0) (P q 1)) ∧ Ext wc wx)
  case first =>
    have X7 := Ext.refl wc
    cases h0 : betwB (P i 0) (P i 1) (P j 0) (P j 1) (P p 0) (P p 1)
    case true =>
      go_wp2_with fail
      refine (HB.out i j p _).mono ?_
      rintro e w0 ⟨rfl, x0⟩
      rw [h0]
      replace a0 := x0.cell a0
      replace a1 := x0.cell a1
      replace b0 := x0.cell b0
      replace b1 := x0.cell b1
      replace c0 := x0.cell c0
      replace c1 := x0.cell c1
      replace d0 := x0.cell d0
      replace d1 := x0.cell d1
      replace X7 := X7.trans x0
      clear x0
      go_wp2_with fail
      go_meet
      exact ⟨by unfold betw4; rw [h0]; simp, X7⟩
    cases h1 : betwB (P i 0) (P i 1) (P j 0) (P j 1) (P q 0) (P q 1)
    case true =>
      go_wp2_with fail
      refine (HB.out i j p _).mono ?_
      rintro e w0 ⟨rfl, x0⟩
      rw [h0]
      replace a0 := x0.cell a0
      replace a1 := x0.cell a1
      replace b0 := x0.cell b0
      replace b1 := x0.cell b1
      replace c0 := x0.cell c0
      replace c1 := x0.cell c1
      replace d0 := x0.cell d0
      replace d1 := x0.cell d1
      replace X7 := X7.trans x0
      clear x0
      go_wp2_with fail
      refine (HB.out i j q _).mono ?_
      rintro e w1 ⟨rfl, x1⟩
      rw [h1]
      replace a0 := x1.cell a0
      replace a1 := x1.cell a1
      replace b0 := x1.cell b0
      replace b1 := x1.cell b1
      replace c0 := x1.cell c0
      replace c1 := x1.cell c1
      replace d0 := x1.cell d0
      replace d1 := x1.cell d1
      replace X7 := X7.trans x1
      clear x1
      go_wp2_with fail
      go_meet
      exact ⟨by unfold betw4; rw [h0, h1]; simp, X7⟩
    cases h2 : betwB (P p 0) (P p 1) (P q 0) (P q 1) (P i 0) (P i 1)
    case true =>
      go_wp2_with fail
      refine (HB.out i j p _).mono ?_
      rintro e w0 ⟨rfl, x0⟩
      rw [h0]
      replace a0 := x0.cell a0
      replace a1 := x0.cell a1
      replace b0 := x0.cell b0
      replace b1 := x0.cell b1
      replace c0 := x0.cell c0
      replace c1 := x0.cell c1
      replace d0 := x0.cell d0
      replace d1 := x0.cell d1
      replace X7 := X7.trans x0
      clear x0
      go_wp2_with fail
      refine (HB.out i j q _).mono ?_
      rintro e w1 ⟨rfl, x1⟩
      rw [h1]
      replace a0 := x1.cell a0
      replace a1 := x1.cell a1
      replace b0 := x1.cell b0
      replace b1 := x1.cell b1
      replace c0 := x1.cell c0
      replace c1 := x1.cell c1
      replace d0 := x1.cell d0
      replace d1 := x1.cell d1
      replace X7 := X7.trans x1
      clear x1
      go_wp2_with fail
      refine (HB.out p q i _).mono ?_
      rintro e w2 ⟨rfl, x2⟩
      rw [h2]
      replace a0 := x2.cell a0
      replace a1 := x2.cell a1
      replace b0 := x2.cell b0
      replace b1 := x2.cell b1
      replace c0 := x2.cell c0
      replace c1 := x2.cell c1
      replace d0 := x2.cell d0
      replace d1 := x2.cell d1
      replace X7 := X7.trans x2
      clear x2
      go_wp2_with fail
      go_meet
      exact ⟨by unfold betw4; rw [h0, h1, h2]; simp, X7⟩
    cases h3 : betwB (P p 0) (P p 1) (P q 0) (P q 1) (P j 0) (P j 1)
    case true =>
      go_wp2_with fail
      refine (HB.out i j p _).mono ?_
      rintro e w0 ⟨rfl, x0⟩
      rw [h0]
      replace a0 := x0.cell a0
      replace a1 := x0.cell a1
      replace b0 := x0.cell b0
      replace b1 := x0.cell b1
      replace c0 := x0.cell c0
      replace c1 := x0.cell c1
      replace d0 := x0.cell d0
      replace d1 := x0.cell d1
      replace X7 := X7.trans x0
      clear x0
      go_wp2_with fail
      refine (HB.out i j q _).mono ?_
      rintro e w1 ⟨rfl, x1⟩
      rw [h1]
      replace a0 := x1.cell a0
      replace a1 := x1.cell a1
      replace b0 := x1.cell b0
      replace b1 := x1.cell b1
      replace c0 := x1.cell c0
      replace c1 := x1.cell c1
      replace d0 := x1.cell d0
      replace d1 := x1.cell d1
      replace X7 := X7.trans x1
      clear x1
      go_wp2_with fail
      refine (HB.out p q i _).mono ?_
      rintro e w2 ⟨rfl, x2⟩
      rw [h2]
      replace a0 := x2.cell a0
      replace a1 := x2.cell a1
      replace b0 := x2.cell b0
      replace b1 := x2.cell b1
      replace c0 := x2.cell c0
      replace c1 := x2.cell c1
      replace d0 := x2.cell d0
      replace d1 := x2.cell d1
      replace X7 := X7.trans x2
      clear x2
      go_wp2_with fail
      refine (HB.out p q j _).mono ?_
      rintro e w3 ⟨rfl, x3⟩
      rw [h3]
      replace a0 := x3.cell a0
      replace a1 := x3.cell a1
      replace b0 := x3.cell b0
      replace b1 := x3.cell b1
      replace c0 := x3.cell c0
      replace c1 := x3.cell c1
      replace d0 := x3.cell d0
      replace d1 := x3.cell d1
      replace X7 := X7.trans x3
      clear x3
      go_wp2_with fail
      go_meet
      exact ⟨by unfold betw4; rw [h0, h1, h2, h3]; simp, X7⟩
    go_wp2_with fail
    refine (HB.out i j p _).mono ?_
    rintro e w0 ⟨rfl, x0⟩
    rw [h0]
    replace a0 := x0.cell a0
    replace a1 := x0.cell a1
    replace b0 := x0.cell b0
    replace b1 := x0.cell b1
    replace c0 := x0.cell c0
    replace c1 := x0.cell c1
    replace d0 := x0.cell d0
    replace d1 := x0.cell d1
    replace X7 := X7.trans x0
    clear x0
    go_wp2_with fail
    refine (HB.out i j q _).mono ?_
    rintro e w1 ⟨rfl, x1⟩
    rw [h1]
    replace a0 := x1.cell a0
    replace a1 := x1.cell a1
    replace b0 := x1.cell b0
    replace b1 := x1.cell b1
    replace c0 := x1.cell c0
    replace c1 := x1.cell c1
    replace d0 := x1.cell d0
    replace d1 := x1.cell d1
    replace X7 := X7.trans x1
    clear x1
    go_wp2_with fail
    refine (HB.out p q i _).mono ?_
    rintro e w2 ⟨rfl, x2⟩
    rw [h2]
    replace a0 := x2.cell a0
    replace a1 := x2.cell a1
    replace b0 := x2.cell b0
    replace b1 := x2.cell b1
    replace c0 := x2.cell c0
    replace c1 := x2.cell c1
    replace d0 := x2.cell d0
    replace d1 := x2.cell d1
    replace X7 := X7.trans x2
    clear x2
    go_wp2_with fail
    refine (HB.out p q j _).mono ?_
    rintro e w3 ⟨rfl, x3⟩
    rw [h3]
    replace a0 := x3.cell a0
    replace a1 := x3.cell a1
    replace b0 := x3.cell b0
    replace b1 := x3.cell b1
    replace c0 := x3.cell c0
    replace c1 := x3.cell c1
    replace d0 := x3.cell d0
    replace d1 := x3.cell d1
    replace X7 := X7.trans x3
    clear x3
    go_wp2_with fail
    go_meet
    exact ⟨by unfold betw4; rw [h0, h1, h2, h3]; rfl, X7⟩
  case rest =>
  obtain ⟨rfl, X8⟩ := hcut
  replace a0 := X8.cell a0
  replace a1 := X8.cell a1
  replace b0 := X8.cell b0
  replace b1 := X8.cell b1
  replace c0 := X8.cell c0
  replace c1 := X8.cell c1
  replace d0 := X8.cell d0
  replace d1 := X8.cell d1
  replace X5 := X5.trans X8
  clear X8
  cases hb4 : betw4 (P i 0) (P i 1) (P j 0) (P j 1) (P p 0) (P p 1) (P q 0) (P q 1)
  case true =>
    have HR : Hid (crossB P i j p q = true) := Lib.hid (by rw [HR0.out, hb4]; rfl)
    clear hb4
    go_wp2
    go_ret
    exact ⟨congrArg (fun z => Ending.returned (.bool z)) HR.out.symm, X5⟩
  have HR1 : Hid (crossB P i j p q = apart4 (P i 0) (P i 1) (P j 0) (P j 1) (P p 0) (P p 1) (P q 0) (P q 1)) := Lib.hid (by rw [HR0.out, hb4]; rfl)
  clear hb4
  have HT : Hid (∀ u v x : Nat, u < n → v < n → x < n → ∀ W, Calls Tryz.prog 72 #[.agg #[.int .i64 (P u 0), .int .i64 (P u 1)], .agg #[.int .i64 (P v 0), .int .i64 (P v 1)], .agg #[.int .i64 (P x 0), .int .i64 (P x 1)]] W fun e w' => e = .returned (.int .i64 (trn (P u 0) (P u 1) (P v 0) (P v 1) (P x 0) (P x 1))) ∧ Ext W w') := Lib.hid (fun u v x hu hv hx W => by have q := impl_TurnOf _ _ _ _ _ _ (hr.2 u 0) (hr.2 u 1) (hr.2 v 0) (hr.2 v 1) (hr.2 x 0) (hr.2 x 1) W; rwa [turnV_yes (by rw [HN.out.1 u hu, HN.out.1 v hv, HN.out.1 x hx]; rfl)] at q)
  have B0 := trn_bd (HN.out.1 i (by omega)) (HN.out.1 j (by omega)) (HN.out.1 p (by omega))
  have B1 := trn_bd (HN.out.1 i (by omega)) (HN.out.1 j (by omega)) (HN.out.1 q (by omega))
  have B2 := trn_bd (HN.out.1 p (by omega)) (HN.out.1 q (by omega)) (HN.out.1 i (by omega))
  have B3 := trn_bd (HN.out.1 p (by omega)) (HN.out.1 q (by omega)) (HN.out.1 j (by omega))
  have M0 := prod_bd B0 B1
  have M1 := prod_bd B2 B3
  have W0 : IntKind.i64.wrap (trn (P i 0) (P i 1) (P j 0) (P j 1) (P p 0) (P p 1) * trn (P i 0) (P i 1) (P j 0) (P j 1) (P q 0) (P q 1)) = trn (P i 0) (P i 1) (P j 0) (P j 1) (P p 0) (P p 1) * trn (P i 0) (P i 1) (P j 0) (P j 1) (P q 0) (P q 1) := IntWalk.i64_in _ ⟨by omega, by omega⟩
  have W1 : IntKind.i64.wrap (trn (P p 0) (P p 1) (P q 0) (P q 1) (P i 0) (P i 1) * trn (P p 0) (P p 1) (P q 0) (P q 1) (P j 0) (P j 1)) = trn (P p 0) (P p 1) (P q 0) (P q 1) (P i 0) (P i 1) * trn (P p 0) (P p 1) (P q 0) (P q 1) (P j 0) (P j 1) := IntWalk.i64_in _ ⟨by omega, by omega⟩
  clear B0 B1 B2 B3 M0 M1
  cases d0 : decide (trn (P i 0) (P i 1) (P j 0) (P j 1) (P p 0) (P p 1) * trn (P i 0) (P i 1) (P j 0) (P j 1) (P q 0) (P q 1) < 0)
  case false =>
    have HR : Hid (crossB P i j p q = false) := Lib.hid (by rw [HR1.out]; unfold apart4; rw [d0]; rfl)
    go_wp2
    first | refine wp_region_gr2 (by kernel_rfl) (by kernel_rfl) ?_ | refine wp_region_gr (by kernel_rfl) (by kernel_rfl) ?_
    repeat (go_big_quiet_step ((go_at_call 72; exact gr_of (HT.out _ _ _ (by assumption) (by assumption) (by assumption) _))))
    refine wpQuiet_nil ?_
    intro _ hw'
    obtain ⟨gq, hw''⟩ := hw'
    subst hw''
    go_wp2
    go_ret
    exact ⟨congrArg (fun z => Ending.returned (.bool z)) HR.out.symm, X5.trans (by repeat (first | exact Ext.refl _ | exact Ext.gr _ _ | apply Ext.wgr | apply Ext.drew | apply Ext.drewN | apply Ext.alloc))⟩
  cases d1 : decide (trn (P p 0) (P p 1) (P q 0) (P q 1) (P i 0) (P i 1) * trn (P p 0) (P p 1) (P q 0) (P q 1) (P j 0) (P j 1) < 0)
  case false =>
    have HR : Hid (crossB P i j p q = false) := Lib.hid (by rw [HR1.out]; unfold apart4; rw [d0, d1]; rfl)
    go_wp2
    first | refine wp_region_gr2 (by kernel_rfl) (by kernel_rfl) ?_ | refine wp_region_gr (by kernel_rfl) (by kernel_rfl) ?_
    repeat (go_big_quiet_step ((go_at_call 72; exact gr_of (HT.out _ _ _ (by assumption) (by assumption) (by assumption) _))))
    refine wpQuiet_nil ?_
    intro _ hw'
    obtain ⟨gq, hw''⟩ := hw'
    subst hw''
    go_wp2
    go_ret
    exact ⟨congrArg (fun z => Ending.returned (.bool z)) HR.out.symm, X5.trans (by repeat (first | exact Ext.refl _ | exact Ext.gr _ _ | apply Ext.wgr | apply Ext.drew | apply Ext.drewN | apply Ext.alloc))⟩
  case true =>
    have HR : Hid (crossB P i j p q = true) := Lib.hid (by rw [HR1.out]; unfold apart4; rw [d0, d1]; rfl)
    go_wp2
    first | refine wp_region_gr2 (by kernel_rfl) (by kernel_rfl) ?_ | refine wp_region_gr (by kernel_rfl) (by kernel_rfl) ?_
    repeat (go_big_quiet_step ((go_at_call 72; exact gr_of (HT.out _ _ _ (by assumption) (by assumption) (by assumption) _))))
    refine wpQuiet_nil ?_
    intro _ hw'
    obtain ⟨gq, hw''⟩ := hw'
    subst hw''
    go_wp2
    go_ret
    exact ⟨congrArg (fun z => Ending.returned (.bool z)) HR.out.symm, X5.trans (by repeat (first | exact Ext.refl _ | exact Ext.gr _ _ | apply Ext.wgr | apply Ext.drew | apply Ext.drewN | apply Ext.alloc))⟩

end Go.Proofs.YtgmhmlhdiklaaaaGreatDoor
