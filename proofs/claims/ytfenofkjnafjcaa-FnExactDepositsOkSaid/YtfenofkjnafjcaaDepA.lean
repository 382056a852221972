/-
  The first place at which a test holds; the place of a deposit in a list. No conditions.
-/
import Derived.Test.YtfenofkjnafjcaaWithin
import Derived.Test.YtfenofkjnafjcaaKitC
namespace Go.Proofs.Ytfenofkjnafjcaa
open Go.RowKit
set_option linter.unusedVariables false

/-- The first of the first n places at which g holds; -1 where there is none. -/
def fdx (g : Nat → Bool) : Nat → Int
  | 0 => -1
  | n + 1 => if 0 ≤ fdx g n then fdx g n else if g n = true then (n : Int) else -1
theorem fdx_none {g : Nat → Bool} : ∀ {n : Nat}, (∀ i, i < n → g i = false) → fdx g n = -1
  | 0, _ => rfl
  | n + 1, h => by
    have h1 := fdx_none (g := g) (n := n) (fun i hi => h i (by omega))
    have h2 := h n (by omega)
    show (if 0 ≤ fdx g n then fdx g n else if g n = true then (n : Int) else -1) = -1
    rw [h1, if_neg (by omega), h2]; rfl
theorem fdx_at {g : Nat → Bool} : ∀ {n j : Nat}, j < n → g j = true → (∀ i, i < j → g i = false) → fdx g n = j
  | 0, j, hj, _, _ => by omega
  | n + 1, j, hj, h, hf => by
    show (if 0 ≤ fdx g n then fdx g n else if g n = true then (n : Int) else -1) = j
    by_cases e : j = n
    · subst e; rw [fdx_none hf, if_neg (by omega), if_pos h]
    · rw [fdx_at (n := n) (by omega) h hf, if_pos (by omega)]
theorem fdx_cases (g : Nat → Bool) (n : Nat) : ((∀ i, i < n → g i = false) ∧ fdx g n = -1) ∨ ∃ j : Nat, j < n ∧ g j = true ∧ (∀ i, i < j → g i = false) ∧ fdx g n = j := by
  induction n with
  | zero => left; exact ⟨fun i hi => by omega, rfl⟩
  | succ n ih =>
    rcases ih with ⟨h1, h2⟩ | ⟨j, h1, h2, h3, h4⟩
    · cases e : g n
      · left
        refine ⟨fun i hi => ?_, ?_⟩
        · by_cases q : i = n
          · rw [q]; exact e
          · exact h1 i (by omega)
        · exact fdx_none fun i hi => by
            by_cases q : i = n
            · rw [q]; exact e
            · exact h1 i (by omega)
      · right
        exact ⟨n, by omega, e, h1, fdx_at (by omega) e h1⟩
    · right
      exact ⟨j, by omega, h2, h3, fdx_at (by omega) h2 h3⟩
theorem fdx_bd (g : Nat → Bool) (n : Nat) : -1 ≤ fdx g n ∧ fdx g n < n ∨ fdx g n = -1 := by
  rcases fdx_cases g n with ⟨_, h⟩ | ⟨j, hj, _, _, h⟩
  · right; exact h
  · left; omega

set_option maxHeartbeats 400000 in
theorem place_is (x y z p : Int) (b : Nat) (w : World) (hc : w.cell? ⟨b, 0, none⟩ = some (.int .i64 p)) :
    Calls Try.prog 97 #[.agg #[.int .i64 x, .int .i64 y, .int .i64 z], .pointer (some ⟨b, 0, none⟩)] w fun e w' => e = .returned (.bool (decide (x = p))) ∧ Ext w w' := by
  have hb := World.block_lt_of_cell? _ _ hc
  by_cases h : x = p
  · subst h
    go_enter Try.func97, Try.ntmps97
    go_wp2
    go_ret
    exact ⟨by simp, by repeat (first | exact Ext.refl _ | apply Ext.wgr | apply Ext.drew | apply Ext.drewN | apply Ext.alloc)⟩
  · have hd : (x == p) = false := by simpa using h
    have hn : decide (x = p) = false := by simpa using h
    go_enter Try.func97, Try.ntmps97
    go_wp2
    go_ret
    exact ⟨by simp, by repeat (first | exact Ext.refl _ | apply Ext.wgr | apply Ext.drew | apply Ext.drewN | apply Ext.alloc)⟩

set_option maxHeartbeats 1000000 in
theorem indexFunc_any (A : Option Addr) (n c : Nat) (f : Nat → Nat → Int) (p : Int) (b : Nat) (hn : n ≤ 9223372036854775807) (w : World) (hr : Recs w 3 A n f) (hc : w.cell? ⟨b, 0, none⟩ = some (.int .i64 p)) :
    Calls Try.prog 96 #[.slice A n c, .func (.func 97) #[] #[.pointer (some ⟨b, 0, none⟩)]] w fun e w' => e = .returned (.int .i64 (fdx (fun i => decide (f i 0 = p)) n)) ∧ Ext w w' := by
  go_enter Try.func96, Try.ntmps96
  go_wp2
  go_loopw [5, 8] (fun _ i wr => ∃ j : Nat, j ≤ n ∧ i = .int .i64 j ∧ Ext w wr ∧ ∀ q, q < j → decide (f q 0 = p) = false) (fun _ i _ => n - (intOf i).toNat)
  case atStart => exact ⟨0, Nat.zero_le _, rfl, Ext.refl w, fun q hq => absurd hq (by omega)⟩
  case round =>
    obtain ⟨j, hj, rfl, ⟨gx, rfl⟩, hall⟩ := hrel
    have HALL := Lib.hid hall
    clear hall
    by_cases hlt : j < n
    · obtain ⟨b2, o, rfl, hb, h0, h1, h2⟩ := hr.at3 hlt
      cases hin : decide (f j 0 = p)
      · have HIN := Lib.hid hin
        have HP := Lib.hid (fun W (h : W.cell? ⟨b, 0, none⟩ = some (.int .i64 p)) => place_is (f j 0) (f j 1) (f j 2) p b W h)
        rw [hin] at HP
        clear hin
        go_wp2_with (go_at_call 97; refine (HP.out _ (by rw [cell_wgr _ _ _ (by rw [hc]; rfl)]; exact hc)).mono ?_; rintro e w' ⟨rfl, g, rfl⟩)
        go_roundw
        case rel =>
          refine ⟨j + 1, by omega, by go_num, by repeat (first | exact Ext.refl _ | exact Ext.gr _ _ | apply Ext.wgr | apply Ext.drew | apply Ext.drewN | apply Ext.alloc), fun q hq => ?_⟩
          by_cases e : q = j
          · subst e; exact HIN.out
          · exact HALL.out q (by omega)
        case measure => simp [intOf]; omega
      · have HIN := Lib.hid hin
        have HP := Lib.hid (fun W (h : W.cell? ⟨b, 0, none⟩ = some (.int .i64 p)) => place_is (f j 0) (f j 1) (f j 2) p b W h)
        rw [hin] at HP
        clear hin
        go_wp2_with (go_at_call 97; refine (HP.out _ (by rw [cell_wgr _ _ _ (by rw [hc]; rfl)]; exact hc)).mono ?_; rintro e w' ⟨rfl, g, rfl⟩)
        go_ret
        exact ⟨congrArg (fun z => Ending.returned (.int .i64 z)) (fdx_at hlt HIN.out HALL.out).symm, by repeat (first | exact Ext.refl _ | exact Ext.gr _ _ | apply Ext.wgr | apply Ext.drew | apply Ext.drewN | apply Ext.alloc)⟩
    · obtain rfl : j = n := by omega
      go_wp2
      go_ret
      exact ⟨congrArg (fun z => Ending.returned (.int .i64 z)) (fdx_none HALL.out).symm, Ext.gr w _⟩
set_option maxHeartbeats 1000000 in
theorem depositAt_any (A : Option Addr) (n c : Nat) (f : Nat → Nat → Int) (p : Int) (hn : n ≤ 9223372036854775807) (w : World) (hr : Recs w 3 A n f) :
    Calls Try.prog 80 #[.slice A n c, .int .i64 p] w fun e w' => e = .returned (.int .i64 (fdx (fun i => decide (f i 0 = p)) n)) ∧ Ext w w' := by
  go_enter Try.func80, Try.ntmps80
  go_wp2_with (go_at_call 96; refine (indexFunc_any A n c f p _ hn _ (hr.ext ((Ext.refl _).alloc _)) (by simp)).mono ?_; rintro e w' ⟨rfl, g, rfl⟩)
  go_ret
  exact ⟨rfl, by repeat (first | exact Ext.refl _ | apply Ext.wgr | apply Ext.drew | apply Ext.drewN | apply Ext.alloc)⟩

end Go.Proofs.Ytfenofkjnafjcaa
