/-
  The first place at which a test holds; the place of a deposit in a list. No conditions.
-/
import Derived.Test.YthnngekibkcgdaaWithin
import Derived.Test.YthnngekibkcgdaaFdx
namespace Go.Proofs.Ythnngekibkcgdaa
open Go.RowKit
set_option linter.unusedVariables false

set_option maxHeartbeats 400000 in
theorem place_is (x y z p : Int) (b : Nat) (w : World) (hc : w.cell? ⟨b, 0, none⟩ = some (.int .i64 p)) :
    Calls Try.prog 38 #[.agg #[.int .i64 x, .int .i64 y, .int .i64 z], .pointer (some ⟨b, 0, none⟩)] w fun e w' => e = .returned (.bool (decide (x = p))) ∧ Ext w w' := by
  have hb := World.block_lt_of_cell? _ _ hc
  by_cases h : x = p
  · subst h
    go_enter Try.func38, Try.ntmps38
    go_wp2
    go_ret
    exact ⟨by simp, by repeat (first | exact Ext.refl _ | apply Ext.wgr | apply Ext.drew | apply Ext.drewN | apply Ext.alloc)⟩
  · have hd : (x == p) = false := by simpa using h
    have hn : decide (x = p) = false := by simpa using h
    go_enter Try.func38, Try.ntmps38
    go_wp2
    go_ret
    exact ⟨by simp, by repeat (first | exact Ext.refl _ | apply Ext.wgr | apply Ext.drew | apply Ext.drewN | apply Ext.alloc)⟩

set_option maxHeartbeats 1000000 in
theorem indexFunc_any (A : Option Addr) (n c : Nat) (f : Nat → Nat → Int) (p : Int) (b : Nat) (hn : n ≤ 9223372036854775807) (w : World) (hr : Recs w 3 A n f) (hc : w.cell? ⟨b, 0, none⟩ = some (.int .i64 p)) :
    Calls Try.prog 37 #[.slice A n c, .func (.func 38) #[] #[.pointer (some ⟨b, 0, none⟩)]] w fun e w' => e = .returned (.int .i64 (fdx (fun i => decide (f i 0 = p)) n)) ∧ Ext w w' := by
  go_enter Try.func37, Try.ntmps37
  go_wp2
  go_loopw [5, 8] (fun _ i wr => ∃ j : Nat, j ≤ n ∧ i = .int .i64 j ∧ Ext w wr ∧ ∀ q, q < j → decide (f q 0 = p) = false) (fun _ i _ => n - (intOf i).toNat)
  case atStart => exact ⟨0, Nat.zero_le _, rfl, Ext.refl w, fun q hq => absurd hq (by omega)⟩
  case round =>
    obtain ⟨j, hj, rfl, ⟨gx, rfl⟩, hall⟩ := hrel
    have HALL := Lib.hid hall
    clear hall
    by_cases hlt : j < n
    · obtain ⟨b2, o, rfl, hb, h0, h1, h2⟩ := hr.at3 hlt
      cases hin : decide (f j 0 = p)
      · have HIN := Lib.hid hin
        have HP := Lib.hid (fun W (h : W.cell? ⟨b, 0, none⟩ = some (.int .i64 p)) => place_is (f j 0) (f j 1) (f j 2) p b W h)
        rw [hin] at HP
        clear hin
        go_wp2_with (go_at_call 38; refine (HP.out _ (by rw [cell_wgr _ _ _ (by rw [hc]; rfl)]; exact hc)).mono ?_; rintro e w' ⟨rfl, g, rfl⟩)
        go_roundw
        case rel =>
          refine ⟨j + 1, by omega, by go_num, by repeat (first | exact Ext.refl _ | exact Ext.gr _ _ | apply Ext.wgr | apply Ext.drew | apply Ext.drewN | apply Ext.alloc), fun q hq => ?_⟩
          by_cases e : q = j
          · subst e; exact HIN.out
          · exact HALL.out q (by omega)
        case measure => simp [intOf]; omega
      · have HIN := Lib.hid hin
        have HP := Lib.hid (fun W (h : W.cell? ⟨b, 0, none⟩ = some (.int .i64 p)) => place_is (f j 0) (f j 1) (f j 2) p b W h)
        rw [hin] at HP
        clear hin
        go_wp2_with (go_at_call 38; refine (HP.out _ (by rw [cell_wgr _ _ _ (by rw [hc]; rfl)]; exact hc)).mono ?_; rintro e w' ⟨rfl, g, rfl⟩)
        go_ret
        exact ⟨congrArg (fun z => Ending.returned (.int .i64 z)) (fdx_at hlt HIN.out HALL.out).symm, by repeat (first | exact Ext.refl _ | exact Ext.gr _ _ | apply Ext.wgr | apply Ext.drew | apply Ext.drewN | apply Ext.alloc)⟩
    · obtain rfl : j = n := by omega
      go_wp2
      go_ret
      exact ⟨congrArg (fun z => Ending.returned (.int .i64 z)) (fdx_none HALL.out).symm, Ext.gr w _⟩
set_option maxHeartbeats 1000000 in
theorem depositAt_any (A : Option Addr) (n c : Nat) (f : Nat → Nat → Int) (p : Int) (hn : n ≤ 9223372036854775807) (w : World) (hr : Recs w 3 A n f) :
    Calls Try.prog 24 #[.slice A n c, .int .i64 p] w fun e w' => e = .returned (.int .i64 (fdx (fun i => decide (f i 0 = p)) n)) ∧ Ext w w' := by
  go_enter Try.func24, Try.ntmps24
  go_wp2_with (go_at_call 37; refine (indexFunc_any A n c f p _ hn _ (hr.ext ((Ext.refl _).alloc _)) (by simp)).mono ?_; rintro e w' ⟨rfl, g, rfl⟩)
  go_ret
  exact ⟨rfl, by repeat (first | exact Ext.refl _ | apply Ext.wgr | apply Ext.drew | apply Ext.drewN | apply Ext.alloc)⟩

end Go.Proofs.Ythnngekibkcgdaa
