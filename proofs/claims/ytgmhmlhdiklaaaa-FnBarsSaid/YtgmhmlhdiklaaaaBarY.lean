/-
  Contracts of the widest gap between bars. No conditions.
-/
import Derived.Test.YtgmhmlhdiklaaaaBarX
namespace Go.Proofs.Ytgmhmlhdiklaaaa
open Go.RowKit
set_option linter.unusedVariables false

set_option maxRecDepth 100000 in
set_option maxHeartbeats 8000000 in
theorem impl_WidestGap (A : Option Addr) (n c : Nat) (P : Nat → Nat → Int) (B : Option Addr) (m d : Nat) (L : Nat → Nat → Int) (hnc : n ≤ c) (hcm : c ≤ 9223372036854775807) (hmd : m ≤ d) (hdm : d ≤ 9223372036854775807) (Ab : Option Addr) (nb cb : Nat) (f : Nat → Nat → Int) (hnb : nb ≤ cb) (hcb : cb ≤ 9223372036854775807) (w : World) (hr : Recs w 2 A n P) (hs : Recs w 2 B m L) (hb : Recs w 1 Ab nb f) :
    Calls Try.prog 13 #[.agg #[.slice A n c, .slice B m d], .slice Ab nb cb] w fun e w' => e = .returned (.int .i64 (widV n P m L nb f)) ∧ Ext w w' := by
  have HB := Lib.hid (fun W (X : Ext w W) => impl_BarsOk Ab nb cb f (by omega) W (hb.ext X))
  cases hw : winB n P m L
  case false =>
    have HR := Lib.hid (widV_no (f := f) (nb := nb) (show (winB n P m L && barsB nb f) = false by rw [hw]; rfl))
    have HW : Hid (∀ W, Ext w W → Calls Try.prog 49 #[.agg #[.slice A n c, .slice B m d]] W fun e w' => e = .returned (.bool false) ∧ Ext W w') := Lib.hid (fun W X => by have q := impl_WindowOk A n c P B m d L hnc hcm hmd hdm W (hr.ext X) (hs.ext X); rwa [hw] at q)
    clear hw
    go_enter Try.func13, Try.ntmps13
    go_wp2_with fail
    refine (HW.out _ ((Ext.refl _).alloc _)).mono ?_
    rintro e w2 ⟨rfl, x2⟩
    go_wp2
    go_ret
    exact ⟨ret_i HR.out.symm, ((Ext.refl w).alloc _).trans x2⟩
  case true =>
    have HW : Hid (∀ W, Ext w W → Calls Try.prog 49 #[.agg #[.slice A n c, .slice B m d]] W fun e w' => e = .returned (.bool true) ∧ Ext W w') := Lib.hid (fun W X => by have q := impl_WindowOk A n c P B m d L hnc hcm hmd hdm W (hr.ext X) (hs.ext X); rwa [hw] at q)
    cases hbar : barsB nb f
    · have HR := Lib.hid (widV_no (f := f) (nb := nb) (show (winB n P m L && barsB nb f) = false by rw [hbar]; simp))
      rw [hbar] at HB
      clear hw hbar
      go_enter Try.func13, Try.ntmps13
      go_wp2_with fail
      refine (HW.out _ ((Ext.refl _).alloc _)).mono ?_
      rintro e w2 ⟨rfl, x2⟩
      have X := ((Ext.refl w).alloc _).trans x2
      go_wp2_with fail
      refine (HB.out _ X).mono ?_
      rintro e w3 ⟨rfl, x3⟩
      go_wp2
      go_ret
      exact ⟨ret_i HR.out.symm, X.trans x3⟩
    · have HR := Lib.hid (widV_yes (f := f) (nb := nb) (show (winB n P m L && barsB nb f) = true by rw [hw, hbar]; rfl))
      rw [hbar] at HB
      obtain ⟨⟨hn1, hn12, hm20⟩, hN, hLA⟩ := winB_get hw
      have HT := Lib.hid (fun W (X : Ext w W) => impl_heights A n c P B m d L hnc hcm hmd hdm hn1 W (hr.ext X) (hs.ext X))
      have hbd := loF_bd hN hn1 n (Nat.le_refl n)
      clear hN hLA hw hbar
      generalize loF P n = lo at HT HR hbd
      generalize hiF P n = hi at HT HR hbd
      go_enter Try.func13, Try.ntmps13
      go_wp2_with fail
      refine (HW.out _ ((Ext.refl _).alloc _)).mono ?_
      rintro e w2 ⟨rfl, x2⟩
      have q00 := x2.cell (a := ⟨w.heap.size, 0, none⟩) (u := .slice A n c) (by simp [go_sem])
      have q01 := x2.cell (a := ⟨w.heap.size, 1, none⟩) (u := .slice B m d) (by simp [go_sem])
      have X := ((Ext.refl w).alloc _).trans x2
      clear x2 HW
      go_wp2_with fail
      refine (HB.out _ X).mono ?_
      rintro e w3 ⟨rfl, x3⟩
      replace q00 := x3.cell q00
      replace q01 := x3.cell q01
      replace X := X.trans x3
      clear x3 HB
      go_wp2_with fail
      refine (HT.out _ X).mono ?_
      rintro e w4 ⟨rfl, x4⟩
      replace X := X.trans x4
      clear x4 HT q00 q01
      go_wp2
      go_loopw [7, 8, 27] (fun b a i wr => ∃ k : Nat, k ≤ nb ∧ b = .int .i64 (gapF lo hi f k).1 ∧ a = .int .i64 (gapF lo hi f k).2 ∧ i = .int .i64 k ∧ Ext w4 wr) (fun _ _ i _ => nb - (intOf i).toNat)
      case atStart => exact ⟨0, Nat.zero_le _, rfl, rfl, rfl, Ext.refl w4⟩
      case round =>
        obtain ⟨k, hk, rfl, rfl, rfl, Y⟩ := hrel
        have hgb := gapF_bd (f := f) hbd.1 hbd.2 k
        by_cases hlt : k < nb
        · obtain ⟨bb, ob, rfl, hbb2, cc⟩ := hb.at1 hlt
          replace cc := (X.trans Y).cell cc
          have u1 : (0 : Int) ≤ (k : Int) := by omega
          have u2 : (k : Int) < (nb : Int) := by omega
          have HIN := Lib.hid (fun W => within_any (f k 0) lo hi W)
          cases e : inB (f k 0) lo hi
          · rw [e] at HIN
            have HS := Lib.hid (gapF_no e)
            clear e
            go_wp2_with fail
            refine (HIN.out _).mono ?_
            rintro e w7 ⟨rfl, x7⟩
            go_wp2
            go_roundw
            case rel => exact ⟨k + 1, by omega, by rw [HS.out], by rw [HS.out], by go_num, Y.trans x7⟩
            case measure => simp [intOf]; omega
          · rw [e] at HIN
            have HS := Lib.hid (gapF_yes e)
            have he := inB_of e
            clear e
            generalize (gapF lo hi f k).1 = g1 at HS hgb ⊢
            generalize (gapF lo hi f k).2 = g2 at HS hgb ⊢
            generalize f k 0 = z at HIN HS he cc
            go_wp2_with fail
            refine (HIN.out _).mono ?_
            rintro e w7 ⟨rfl, x7⟩
            replace cc := x7.cell cc
            go_wp2
            go_roundw
            case rel => exact ⟨k + 1, by omega, by rw [HS.out]; refine congrArg (Value.int .i64) ?_; show _ = max g1 (z - g2); first | omega | (split <;> omega), by rw [HS.out], by go_num, Y.trans x7⟩
            case measure => simp [intOf]; omega
        · obtain rfl : nb = k := by omega
          generalize (gapF lo hi f nb).1 = g1 at HR hgb ⊢
          generalize (gapF lo hi f nb).2 = g2 at HR hgb ⊢
          by_cases a1 : g1 < hi - g2
          · have a2 : ¬ hi - g2 < g1 := by omega
            rw [show max g1 (hi - g2) = hi - g2 by omega] at HR
            go_wp2
            go_ret
            exact ⟨ret_i HR.out.symm, X.trans Y⟩
          · rw [show max g1 (hi - g2) = g1 by omega] at HR
            go_wp2
            go_ret
            exact ⟨ret_i HR.out.symm, X.trans Y⟩

end Go.Proofs.Ytgmhmlhdiklaaaa
