/-
  Contracts of the deepest node. No conditions.
-/
import Derived.Test.YtgmhmlhdiklaaaaWinUse
namespace Go.Proofs.Ytgmhmlhdiklaaaa
open Go.RowKit
set_option linter.unusedVariables false

def deepV (n : Nat) (P : Nat → Nat → Int) (m : Nat) (L : Nat → Nat → Int) (z a b c : Int) : Int := if (winB n P m L && sunB a b c && inB z 0 1000) = true then (bestTo (fun k => P k 1) n : Nat) else -1
theorem deepV_no {n m : Nat} {P L : Nat → Nat → Int} {z a b c : Int} (h : (winB n P m L && sunB a b c && inB z 0 1000) = false) : deepV n P m L z a b c = -1 := if_neg (by rw [h]; simp)
theorem deepV_yes {n m : Nat} {P L : Nat → Nat → Int} {z a b c : Int} (h : (winB n P m L && sunB a b c && inB z 0 1000) = true) : deepV n P m L z a b c = (bestTo (fun k => P k 1) n : Nat) := if_pos h

set_option maxRecDepth 100000 in
set_option maxHeartbeats 4000000 in
theorem impl_DeepestNode (A : Option Addr) (n c : Nat) (P : Nat → Nat → Int) (B : Option Addr) (m d : Nat) (L : Nat → Nat → Int) (hnc : n ≤ c) (hcm : c ≤ 9223372036854775807) (hmd : m ≤ d) (hdm : d ≤ 9223372036854775807) (z x y u : Int) (w : World) (hr : Recs w 2 A n P) (hs : Recs w 2 B m L) :
    Calls Try.prog 23 #[.agg #[.slice A n c, .slice B m d], .int .i64 z, .agg #[.int .i64 x, .int .i64 y, .int .i64 u]] w fun e w' => e = .returned (.int .i64 (deepV n P m L z x y u)) ∧ Ext w w' := by
  cases hw : winB n P m L
  case false =>
    have HR := Lib.hid (deepV_no (z := z) (a := x) (b := y) (c := u) (show (winB n P m L && sunB x y u && inB z 0 1000) = false by rw [hw]; rfl))
    have HW : Hid (∀ W, Ext w W → Calls Try.prog 49 #[.agg #[.slice A n c, .slice B m d]] W fun e w' => e = .returned (.bool false) ∧ Ext W w') := Lib.hid (fun W X => by have q := impl_WindowOk A n c P B m d L hnc hcm hmd hdm W (hr.ext X) (hs.ext X); rwa [hw] at q)
    clear hw
    go_enter Try.func23, Try.ntmps23
    go_wp2_with fail
    refine (HW.out _ ((Ext.refl _).alloc _ |>.alloc _)).mono ?_
    rintro e w2 ⟨rfl, x2⟩
    go_wp2
    go_ret
    exact ⟨ret_i HR.out.symm, ((Ext.refl w).alloc _ |>.alloc _).trans x2⟩
  case true =>
    have HW : Hid (∀ W, Ext w W → Calls Try.prog 49 #[.agg #[.slice A n c, .slice B m d]] W fun e w' => e = .returned (.bool true) ∧ Ext W w') := Lib.hid (fun W X => by have q := impl_WindowOk A n c P B m d L hnc hcm hmd hdm W (hr.ext X) (hs.ext X); rwa [hw] at q)
    obtain ⟨⟨hn1, hn12, hm20⟩, hN, hLA⟩ := winB_get hw
    have HU := Lib.hid (fun W => impl_SunOk x y u W)
    have HI := Lib.hid (fun W => within_any z 0 1000 W)
    cases hsun : sunB x y u
    case false =>
      have HR := Lib.hid (deepV_no (z := z) (a := x) (b := y) (c := u) (show (winB n P m L && sunB x y u && inB z 0 1000) = false by rw [hw, hsun]; rfl))
      rw [hsun] at HU
      clear hw hsun hN hLA
      go_enter Try.func23, Try.ntmps23
      go_wp2_with fail
      refine (HW.out _ ((Ext.refl _).alloc _ |>.alloc _)).mono ?_
      rintro e w2 ⟨rfl, x2⟩
      have q00 := x2.cell (a := ⟨w.heap.size, 0, none⟩) (u := .slice A n c) (by simp [go_sem])
      have q01 := x2.cell (a := ⟨w.heap.size, 1, none⟩) (u := .slice B m d) (by simp [go_sem])
      have q10 := x2.cell (a := ⟨w.heap.size + 1, 0, none⟩) (u := .int .i64 x) (by simp [go_sem])
      have q11 := x2.cell (a := ⟨w.heap.size + 1, 1, none⟩) (u := .int .i64 y) (by simp [go_sem])
      have q12 := x2.cell (a := ⟨w.heap.size + 1, 2, none⟩) (u := .int .i64 u) (by simp [go_sem])
      go_wp2_with fail
      refine (HU.out _).mono ?_
      rintro e w3 ⟨rfl, x3⟩
      go_wp2
      go_ret
      exact ⟨ret_i HR.out.symm, (((Ext.refl w).alloc _ |>.alloc _).trans x2).trans x3⟩
    case true =>
      rw [hsun] at HU
      cases hz : inB z 0 1000
      case false =>
        have HR := Lib.hid (deepV_no (z := z) (a := x) (b := y) (c := u) (show (winB n P m L && sunB x y u && inB z 0 1000) = false by rw [hw, hsun, hz]; rfl))
        rw [hz] at HI
        clear hw hsun hN hLA hz
        go_enter Try.func23, Try.ntmps23
        go_wp2_with fail
        refine (HW.out _ ((Ext.refl _).alloc _ |>.alloc _)).mono ?_
        rintro e w2 ⟨rfl, x2⟩
        have q00 := x2.cell (a := ⟨w.heap.size, 0, none⟩) (u := .slice A n c) (by simp [go_sem])
        have q01 := x2.cell (a := ⟨w.heap.size, 1, none⟩) (u := .slice B m d) (by simp [go_sem])
        have q10 := x2.cell (a := ⟨w.heap.size + 1, 0, none⟩) (u := .int .i64 x) (by simp [go_sem])
        have q11 := x2.cell (a := ⟨w.heap.size + 1, 1, none⟩) (u := .int .i64 y) (by simp [go_sem])
        have q12 := x2.cell (a := ⟨w.heap.size + 1, 2, none⟩) (u := .int .i64 u) (by simp [go_sem])
        go_wp2_with fail
        refine (HU.out _).mono ?_
        rintro e w3 ⟨rfl, x3⟩
        go_wp2_with fail
        refine (HI.out _).mono ?_
        rintro e w4 ⟨rfl, x4⟩
        go_wp2
        go_ret
        exact ⟨ret_i HR.out.symm, ((((Ext.refl w).alloc _ |>.alloc _).trans x2).trans x3).trans x4⟩
      case true =>
        have HR := Lib.hid (deepV_yes (z := z) (a := x) (b := y) (c := u) (show (winB n P m L && sunB x y u && inB z 0 1000) = true by rw [hw, hsun, hz]; rfl))
        rw [hz] at HI
        clear hw hsun hN hLA hz
        obtain ⟨bA, oA, rfl, hbA, _⟩ := hr.at2 (k := 0) (by omega)
        go_enter Try.func23, Try.ntmps23
        go_wp2_with fail
        refine (HW.out _ ((Ext.refl _).alloc _ |>.alloc _)).mono ?_
        rintro e w2 ⟨rfl, x2⟩
        have q00 := x2.cell (a := ⟨w.heap.size, 0, none⟩) (u := .slice (some ⟨bA, oA, none⟩) n c) (by simp [go_sem])
        have q01 := x2.cell (a := ⟨w.heap.size, 1, none⟩) (u := .slice B m d) (by simp [go_sem])
        have q10 := x2.cell (a := ⟨w.heap.size + 1, 0, none⟩) (u := .int .i64 x) (by simp [go_sem])
        have q11 := x2.cell (a := ⟨w.heap.size + 1, 1, none⟩) (u := .int .i64 y) (by simp [go_sem])
        have q12 := x2.cell (a := ⟨w.heap.size + 1, 2, none⟩) (u := .int .i64 u) (by simp [go_sem])
        have X := ((Ext.refl w).alloc _ |>.alloc _).trans x2
        clear x2
        go_wp2_with fail
        refine (HU.out _).mono ?_
        rintro e w3 ⟨rfl, x3⟩
        replace q00 := x3.cell q00
        replace q01 := x3.cell q01
        replace q10 := x3.cell q10
        replace q11 := x3.cell q11
        replace q12 := x3.cell q12
        replace X := X.trans x3
        clear x3
        go_wp2_with fail
        refine (HI.out _).mono ?_
        rintro e w4 ⟨rfl, x4⟩
        replace q00 := x4.cell q00
        replace q01 := x4.cell q01
        replace q10 := x4.cell q10
        replace q11 := x4.cell q11
        replace q12 := x4.cell q12
        replace X := X.trans x4
        clear x4 q10 q11 q12
        go_wp2
        go_loopw [7, 26] (fun v i wr => ∃ k : Nat, k ≤ n ∧ i = .int .i64 k ∧ v = .int .i64 (bestTo (fun k => P k 1) k : Nat) ∧ Ext w4 wr) (fun _ i _ => n - (intOf i).toNat)
        case atStart => exact ⟨0, Nat.zero_le _, rfl, rfl, Ext.refl w4⟩
        case round =>
          obtain ⟨k, hk, rfl, rfl, Y⟩ := hrel
          replace q00 := Y.cell q00
          by_cases hlt : k < n
          · obtain ⟨t, ht⟩ : ∃ t, t = bestTo (fun k => P k 1) k := ⟨_, rfl⟩
            have htn : t < n := by rw [ht]; exact bestTo_in _ hlt
            obtain ⟨c0, c1⟩ := hr.cell2 hlt
            obtain ⟨d0, d1⟩ := hr.cell2 htn
            replace c0 := (X.trans Y).cell c0
            replace c1 := (X.trans Y).cell c1
            replace d1 := (X.trans Y).cell d1
            have k1 : (0 : Int) ≤ (k : Int) := by omega
            have k2 : (k : Int) < (n : Int) := by omega
            have k3 : (0 : Int) ≤ (t : Int) := by omega
            have k4 : (t : Int) < (n : Int) := by omega
            rw [← ht]
            have q0' := ((Ext.refl wr).alloc (.cells #[.int .i64 (P k 0), .int .i64 (P k 1)] 33)).cell q00
            have d1' := ((Ext.refl wr).alloc (.cells #[.int .i64 (P k 0), .int .i64 (P k 1)] 33)).cell d1
            by_cases hd : P t 1 < P k 1
            · have hd1 : decide (P t 1 < P k 1) = true := by simpa using hd
              have HB : Hid (bestTo (fun k => P k 1) (k + 1) = k) := Lib.hid (bestTo_yes (g := fun k => P k 1) (by rw [← ht]; exact hd))
              have HT := Lib.hid ht
              clear hd ht
              go_wp2
              first | refine wp_region_gr2 (by kernel_rfl) (by kernel_rfl) ?_ | refine wp_region_gr (by kernel_rfl) (by kernel_rfl) ?_
              repeat (go_big_quiet_step (fail))
              refine wpQuiet_nil ?_
              intro _ hw'
              obtain ⟨gq, hw''⟩ := hw'
              subst hw''
              go_wp2
              go_roundw
              case rel => exact ⟨k + 1, by omega, by go_num, by rw [HB.out], Y.trans (by repeat (first | exact Ext.refl _ | exact Ext.gr _ _ | apply Ext.wgr | apply Ext.drew | apply Ext.drewN | apply Ext.alloc))⟩
              case measure => simp [intOf]; omega
            · have hd1 : decide (P t 1 < P k 1) = false := by simpa using hd
              have HB : Hid (bestTo (fun k => P k 1) (k + 1) = t) := Lib.hid ((bestTo_no (g := fun k => P k 1) (by rw [← ht]; exact hd)).trans ht.symm)
              have HT := Lib.hid ht
              clear hd ht
              go_wp2
              first | refine wp_region_gr2 (by kernel_rfl) (by kernel_rfl) ?_ | refine wp_region_gr (by kernel_rfl) (by kernel_rfl) ?_
              repeat (go_big_quiet_step (fail))
              refine wpQuiet_nil ?_
              intro _ hw'
              obtain ⟨gq, hw''⟩ := hw'
              subst hw''
              go_wp2
              go_roundw
              case rel => exact ⟨k + 1, by omega, by go_num, by rw [HB.out], Y.trans (by repeat (first | exact Ext.refl _ | exact Ext.gr _ _ | apply Ext.wgr | apply Ext.drew | apply Ext.drewN | apply Ext.alloc))⟩
              case measure => simp [intOf]; omega
          · obtain rfl : n = k := by omega
            go_wp2
            go_ret
            exact ⟨ret_i HR.out.symm, X.trans Y⟩

end Go.Proofs.Ytgmhmlhdiklaaaa
