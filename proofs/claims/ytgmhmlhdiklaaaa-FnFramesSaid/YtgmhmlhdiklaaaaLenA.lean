/-
  Contracts of the square of a lead's length, of whole roots, and of the sum of all leads' lengths. No conditions.
-/
import Derived.Test.YtgmhmlhdiklaaaaWinUse
import Derived.Test.YtgmhmlhdiklaaaaTurn
namespace Go.Proofs.Ytgmhmlhdiklaaaa
open Go.RowKit
set_option linter.unusedVariables false

def lsq (a0 a1 b0 b1 : Int) : Int := (a0 - b0) * (a0 - b0) + (a1 - b1) * (a1 - b1)
theorem sq_flip (a b : Int) : (b - a) * (b - a) = (a - b) * (a - b) := by
  have : b - a = -(a - b) := by omega
  rw [this, Int.neg_mul_neg]
theorem lsq_flip (a0 a1 b0 b1 : Int) : (b0 - a0) * (b0 - a0) + (b1 - a1) * (b1 - a1) = lsq a0 a1 b0 b1 := by
  unfold lsq; rw [sq_flip a0 b0, sq_flip a1 b1]
theorem lsq_box {a0 a1 b0 b1 : Int} (ha : nodeB a0 a1 = true) (hb : nodeB b0 b1 = true) :
    (0 ≤ a0 ∧ a0 ≤ 20 ∧ 0 ≤ a1 ∧ a1 ≤ 20) ∧ (0 ≤ b0 ∧ b0 ≤ 20 ∧ 0 ≤ b1 ∧ b1 ≤ 20) ∧ (-400 ≤ (a0 - b0) * (a0 - b0) ∧ (a0 - b0) * (a0 - b0) ≤ 400) ∧ (-400 ≤ (a1 - b1) * (a1 - b1) ∧ (a1 - b1) * (a1 - b1) ≤ 400) := by
  have h1 := nodeB_rng ha
  have h2 := nodeB_rng hb
  have h4 := prod_box (a := a0 - b0) (b := a0 - b0) (by omega) (by omega) (by omega) (by omega)
  have h5 := prod_box (a := a1 - b1) (b := a1 - b1) (by omega) (by omega) (by omega) (by omega)
  omega
/-- The greatest number up to a bound whose square is at most z. -/
def rootF (z : Int) : Nat → Nat
  | 0 => 0
  | m + 1 => if ((m + 1 : Nat) : Int) * ((m + 1 : Nat) : Int) ≤ z then m + 1 else rootF z m
theorem sq_mono {a b : Nat} (h : a ≤ b) : (a : Int) * (a : Int) ≤ (b : Int) * (b : Int) := by
  have := Nat.mul_le_mul h h
  exact_mod_cast this
theorem rootF_eq {z : Int} {k : Nat} (h1 : (k : Int) * (k : Int) ≤ z) (h2 : z < ((k : Int) + 1) * ((k : Int) + 1)) : ∀ m, k ≤ m → rootF z m = k
  | 0, h => by have : k = 0 := by omega
               rw [this]; rfl
  | m + 1, h => by
    show (if ((m + 1 : Nat) : Int) * ((m + 1 : Nat) : Int) ≤ z then m + 1 else rootF z m) = k
    by_cases e : k = m + 1
    · rw [← e, if_pos h1]
    · have h3 := sq_mono (a := k + 1) (b := m + 1) (by omega)
      rw [Int.natCast_add] at h3
      rw [if_neg (by rw [show ((1 : Nat) : Int) = 1 from rfl] at h3; omega)]
      exact rootF_eq h1 h2 m (by omega)
theorem root_le {z : Int} {k : Nat} (h1 : (k : Int) * (k : Int) ≤ z) (hz : z ≤ 800) : k ≤ 28 := by
  rcases Nat.lt_or_ge 28 k with g | g
  · have := sq_mono (a := 29) (b := k) g
    omega
  · exact g
def leadLen (P L : Nat → Nat → Int) (k : Nat) : Int := (rootF (lsq (P (fromN L k) 0) (P (fromN L k) 1) (P (toN L k) 0) (P (toN L k) 1)) 40 : Nat)
def lenV (n : Nat) (P : Nat → Nat → Int) (m : Nat) (L : Nat → Nat → Int) : Int := if winB n P m L = true then psum (leadLen P L) m else -1
theorem lenV_no {n m : Nat} {P L : Nat → Nat → Int} (h : winB n P m L = false) : lenV n P m L = -1 := if_neg (by rw [h]; simp)
theorem lenV_yes {n m : Nat} {P L : Nat → Nat → Int} (h : winB n P m L = true) : lenV n P m L = psum (leadLen P L) m := if_pos h
theorem rootF_le (z : Int) : ∀ m, rootF z m ≤ m
  | 0 => Nat.le_refl 0
  | m + 1 => by
    have := rootF_le z m
    show (if ((m + 1 : Nat) : Int) * ((m + 1 : Nat) : Int) ≤ z then m + 1 else rootF z m) ≤ m + 1
    split <;> omega
theorem leadLen_bd (P L : Nat → Nat → Int) (k : Nat) : 0 ≤ leadLen P L k ∧ leadLen P L k ≤ 40 := by
  have := rootF_le (lsq (P (fromN L k) 0) (P (fromN L k) 1) (P (toN L k) 0) (P (toN L k) 1)) 40
  unfold leadLen
  omega

set_option maxHeartbeats 800000 in
theorem impl_LengthSquare (a0 a1 b0 b1 : Int) (ha0 : I64 a0) (ha1 : I64 a1) (hb0 : I64 b0) (hb1 : I64 b1) (ha : nodeB a0 a1 = true) (hb : nodeB b0 b1 = true) (w : World) :
    Calls Try.prog 70 #[.agg #[.int .i64 a0, .int .i64 a1], .agg #[.int .i64 b0, .int .i64 b1]] w fun e w' => e = .returned (.int .i64 (lsq a0 a1 b0 b1)) ∧ Ext w w' := by
  obtain ⟨r1, r2, r3, r4⟩ := lsq_box ha hb
  have h : (nodeB a0 a1 && nodeB b0 b1) = true := by rw [ha, hb]; rfl
  clear ha hb
  go_enter Try.func70, Try.ntmps70
  go_wp2_with fail
  refine (impl_nodesOk _ 2 _ (pts2 a0 a1 b0 b1) (by omega) _ (Recs.lit2 (by simp) ha0 ha1 hb0 hb1)).mono ?_
  rintro e w2 ⟨rfl, x2⟩
  rw [nodesB2, h]
  have q00 := x2.cell (a := ⟨w.heap.size, 0, none⟩) (u := .int .i64 a0) (by simp [go_sem])
  have q01 := x2.cell (a := ⟨w.heap.size, 1, none⟩) (u := .int .i64 a1) (by simp [go_sem])
  have q10 := x2.cell (a := ⟨w.heap.size + 1, 0, none⟩) (u := .int .i64 b0) (by simp [go_sem])
  have q11 := x2.cell (a := ⟨w.heap.size + 1, 1, none⟩) (u := .int .i64 b1) (by simp [go_sem])
  have X2 := ((Ext.refl w).alloc _ |>.alloc _ |>.alloc _).trans x2
  clear x2
  go_wp2
  go_ret
  exact ⟨rfl, X2⟩
set_option maxHeartbeats 800000 in
theorem spec_LengthSquare (a0 a1 b0 b1 : Int) (ha0 : I64 a0) (ha1 : I64 a1) (hb0 : I64 b0) (hb1 : I64 b1) (ha : nodeB a0 a1 = true) (hb : nodeB b0 b1 = true) (w : World) :
    Calls Try.prog 36 #[.agg #[.int .i64 a0, .int .i64 a1], .agg #[.int .i64 b0, .int .i64 b1]] w fun e w' => e = .returned (.int .i64 (lsq a0 a1 b0 b1)) ∧ Ext w w' := by
  obtain ⟨r1, r2, r3, r4⟩ := lsq_box ha hb
  rw [← sq_flip a0 b0] at r3
  rw [← sq_flip a1 b1] at r4
  have HA : Hid (∀ W, Calls Try.prog 71 #[.agg #[.int .i64 a0, .int .i64 a1]] W fun e w' => e = .returned (.bool true) ∧ Ext W w') := Lib.hid (fun W => by have := spec_NodeOk a0 a1 W; rwa [ha] at this)
  have HB : Hid (∀ W, Calls Try.prog 71 #[.agg #[.int .i64 b0, .int .i64 b1]] W fun e w' => e = .returned (.bool true) ∧ Ext W w') := Lib.hid (fun W => by have := spec_NodeOk b0 b1 W; rwa [hb] at this)
  clear ha hb
  go_enter Try.func36, Try.ntmps36
  go_wp2_with fail
  refine (HA.out _).mono ?_
  rintro e w2 ⟨rfl, x2⟩
  have q00 := x2.cell (a := ⟨w.heap.size, 0, none⟩) (u := .int .i64 a0) (by simp [go_sem])
  have q01 := x2.cell (a := ⟨w.heap.size, 1, none⟩) (u := .int .i64 a1) (by simp [go_sem])
  have q10 := x2.cell (a := ⟨w.heap.size + 1, 0, none⟩) (u := .int .i64 b0) (by simp [go_sem])
  have q11 := x2.cell (a := ⟨w.heap.size + 1, 1, none⟩) (u := .int .i64 b1) (by simp [go_sem])
  have X2 := ((Ext.refl w).alloc _ |>.alloc _).trans x2
  clear x2
  go_wp2_with fail
  refine (HB.out _).mono ?_
  rintro e w3 ⟨rfl, x3⟩
  replace q00 := x3.cell q00
  replace q01 := x3.cell q01
  replace q10 := x3.cell q10
  replace q11 := x3.cell q11
  go_wp2
  go_ret
  exact ⟨congrArg (fun z => Ending.returned (.int .i64 z)) (lsq_flip a0 a1 b0 b1), X2.trans x3⟩
theorem sq_pos (a : Int) : 0 ≤ a * a := by
  rcases Int.le_total 0 a with h | h
  · exact Int.mul_nonneg h h
  · exact Int.mul_nonneg_of_nonpos_of_nonpos h h

set_option maxRecDepth 100000 in
set_option maxHeartbeats 4000000 in
theorem impl_LeadLength (A : Option Addr) (n c : Nat) (P : Nat → Nat → Int) (B : Option Addr) (m d : Nat) (L : Nat → Nat → Int) (hnc : n ≤ c) (hcm : c ≤ 9223372036854775807) (hmd : m ≤ d) (hdm : d ≤ 9223372036854775807) (w : World) (hr : Recs w 2 A n P) (hs : Recs w 2 B m L) :
    Calls Try.prog 35 #[.agg #[.slice A n c, .slice B m d]] w fun e w' => e = .returned (.int .i64 (lenV n P m L)) ∧ Ext w w' := by
  cases hw : winB n P m L
  case false =>
    have HR := Lib.hid (lenV_no hw)
    have HW : Hid (∀ W, Ext w W → Calls Try.prog 49 #[.agg #[.slice A n c, .slice B m d]] W fun e w' => e = .returned (.bool false) ∧ Ext W w') := Lib.hid (fun W X => by have q := impl_WindowOk A n c P B m d L hnc hcm hmd hdm W (hr.ext X) (hs.ext X); rwa [hw] at q)
    clear hw
    go_enter Try.func35, Try.ntmps35
    go_wp2_with fail
    refine (HW.out _ ((Ext.refl _).alloc _)).mono ?_
    rintro e w2 ⟨rfl, x2⟩
    go_wp2
    go_ret
    exact ⟨ret_i HR.out.symm, ((Ext.refl _).alloc _).trans x2⟩
  case true =>
    have HR := Lib.hid (lenV_yes hw)
    have HW : Hid (∀ W, Ext w W → Calls Try.prog 49 #[.agg #[.slice A n c, .slice B m d]] W fun e w' => e = .returned (.bool true) ∧ Ext W w') := Lib.hid (fun W X => by have q := impl_WindowOk A n c P B m d L hnc hcm hmd hdm W (hr.ext X) (hs.ext X); rwa [hw] at q)
    obtain ⟨⟨hn1, hn12, hm20⟩, hN, hLA⟩ := winB_get hw
    have HEN := Lib.hid (fun k (hk : k < m) => winB_ends hw hk)
    have HN := Lib.hid hN
    clear hLA hN hw
    obtain ⟨bA, oA, rfl, hbA, _⟩ := hr.at2 (k := 0) (by omega)
    go_enter Try.func35, Try.ntmps35
    go_wp2_with fail
    refine (HW.out _ ((Ext.refl _).alloc _)).mono ?_
    rintro e w2 ⟨rfl, x2⟩
    have q00 := x2.cell (a := ⟨w.heap.size, 0, none⟩) (u := .slice (some ⟨bA, oA, none⟩) n c) (by simp [go_sem])
    have q01 := x2.cell (a := ⟨w.heap.size, 1, none⟩) (u := .slice B m d) (by simp [go_sem])
    have X := ((Ext.refl w).alloc _).trans x2
    clear x2 HW
    go_wp2
    go_loopw [3, 14] (fun v i wr => ∃ k : Nat, k ≤ m ∧ v = .int .i64 (psum (leadLen P L) k) ∧ i = .int .i64 k ∧ Ext w2 wr) (fun _ i _ => m - (intOf i).toNat)
    case atStart => exact ⟨0, Nat.zero_le _, rfl, rfl, Ext.refl w2⟩
    case round =>
      obtain ⟨k, hk, rfl, rfl, Y⟩ := hrel
      replace q00 := Y.cell q00
      replace q01 := Y.cell q01
      have hsb := psum_bd (fun q => leadLen_bd P L q) k
      by_cases hlt : k < m
      · obtain ⟨e0, e1, hij, hjn⟩ := HEN.out k hlt
        obtain ⟨i, hi⟩ : ∃ i, i = fromN L k := ⟨_, rfl⟩
        obtain ⟨j, hj⟩ : ∃ j, j = toN L k := ⟨_, rfl⟩
        rw [← hi] at e0 hij
        rw [← hj] at e1 hij hjn
        obtain ⟨bB, oB, rfl, hbB, c0, c1⟩ := hs.at2 hlt
        rw [e0] at c0
        rw [e1] at c1
        have hin : i < n := by omega
        obtain ⟨i0, i1⟩ := hr.cell2 hin
        obtain ⟨j0, j1⟩ := hr.cell2 hjn
        replace c0 := (X.trans Y).cell c0
        replace c1 := (X.trans Y).cell c1
        replace i0 := (X.trans Y).cell i0
        replace i1 := (X.trans Y).cell i1
        replace j0 := (X.trans Y).cell j0
        replace j1 := (X.trans Y).cell j1
        have k1 : (0 : Int) ≤ (k : Int) := by omega
        have k2 : (k : Int) < (m : Int) := by omega
        have k3 : (0 : Int) ≤ (i : Int) := by omega
        have k4 : (i : Int) < (n : Int) := by omega
        have k5 : (0 : Int) ≤ (j : Int) := by omega
        have k6 : (j : Int) < (n : Int) := by omega
        have HI := Lib.hid hi
        have HJ := Lib.hid hj
        clear hi hj e0 e1
        have hna := HN.out.1 i hin
        have hnb := HN.out.1 j hjn
        obtain ⟨z, hz⟩ : ∃ z, z = lsq (P i 0) (P i 1) (P j 0) (P j 1) := ⟨_, rfl⟩
        have hzb : 0 ≤ z ∧ z ≤ 800 := by
          have := lsq_box hna hnb
          have g1 := sq_pos (P i 0 - P j 0)
          have g2 := sq_pos (P i 1 - P j 1)
          rw [hz]; unfold lsq; omega
        have HQ : Hid (∀ W, Calls Try.prog 70 #[.agg #[.int .i64 (P i 0), .int .i64 (P i 1)], .agg #[.int .i64 (P j 0), .int .i64 (P j 1)]] W fun e w' => e = .returned (.int .i64 z) ∧ Ext W w') := Lib.hid (fun W => by rw [hz]; exact impl_LengthSquare _ _ _ _ (hr.2 _ _) (hr.2 _ _) (hr.2 _ _) (hr.2 _ _) hna hnb W)
        have HZ : Hid (leadLen P L k = (rootF z 40 : Nat)) := Lib.hid (by unfold leadLen; rw [← HI.out, ← HJ.out, hz])
        clear hz hna hnb
        have q00' := ((Ext.refl wr).alloc (.cells #[.int .i64 (i : Int), .int .i64 (j : Int)] 39)).cell q00
        have i0' := ((Ext.refl wr).alloc (.cells #[.int .i64 (i : Int), .int .i64 (j : Int)] 39)).cell i0
        have i1' := ((Ext.refl wr).alloc (.cells #[.int .i64 (i : Int), .int .i64 (j : Int)] 39)).cell i1
        have j0' := ((Ext.refl wr).alloc (.cells #[.int .i64 (i : Int), .int .i64 (j : Int)] 39)).cell j0
        have j1' := ((Ext.refl wr).alloc (.cells #[.int .i64 (i : Int), .int .i64 (j : Int)] 39)).cell j1
        go_wp2
        first | refine wp_region_gr2 (by kernel_rfl) (by kernel_rfl) ?_ | refine wp_region_gr (by kernel_rfl) (by kernel_rfl) ?_
        repeat (go_big_quiet_step ((go_at_call 70; exact gr_of (HQ.out _))))
        refine wpQuiet_nil ?_
        intro _ hw'
        obtain ⟨gq, hw''⟩ := hw'
        subst hw''
        go_wp2
        have HX : Ext w2 (wgr (wr.alloc (.cells #[.int .i64 (i : Int), .int .i64 (j : Int)] 39)) gq) := (by repeat (first | exact Ext.refl _ | exact Ext.gr _ _ | assumption | apply Ext.wgr | apply Ext.drew | apply Ext.drewN | apply Ext.alloc))
        generalize wgr (wr.alloc (.cells #[.int .i64 (i : Int), .int .i64 (j : Int)] 39)) gq = w5 at HX ⊢
        go_loopw [7] (fun i3 wy => ∃ t : Nat, (t : Int) * (t : Int) ≤ z ∧ i3 = .int .i64 t ∧ Ext w5 wy) (fun i3 _ => 40 - (intOf i3).toNat)
        case atStart => exact ⟨0, by omega, rfl, Ext.refl w5⟩
        case round =>
          obtain ⟨t, ht, rfl, Z⟩ := hrel
          have ht28 := root_le ht hzb.2
          have hq := sq_mono (a := t + 1) (b := 29) (by omega)
          have hq0 : (0 : Int) ≤ ((t : Int) + 1) * ((t : Int) + 1) := Int.mul_nonneg (by omega) (by omega)
          rw [Int.natCast_add] at hq
          rw [show ((1 : Nat) : Int) = 1 from rfl] at hq
          by_cases hlt2 : ((t : Int) + 1) * ((t : Int) + 1) ≤ z
          · go_wp2
            go_roundw
            case rel => exact ⟨t + 1, by rw [Int.natCast_add]; exact hlt2, by go_num, Z⟩
            case measure => simp [intOf]; omega
          · have HT := Lib.hid (rootF_eq ht (by omega) 40 (by omega))
            go_wp2
            go_roundw
            case rel => exact ⟨k + 1, by omega, by show _ = Value.int .i64 (psum (leadLen P L) k + leadLen P L k); rw [HZ.out, HT.out], by go_num, HX.trans Z⟩
            case measure => simp [intOf]; omega
      · obtain rfl : k = m := by omega
        go_wp2
        go_ret
        exact ⟨ret_i HR.out.symm, X.trans Y⟩
end Go.Proofs.Ytgmhmlhdiklaaaa
