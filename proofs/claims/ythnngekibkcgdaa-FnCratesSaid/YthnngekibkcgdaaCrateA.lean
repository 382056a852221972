/-
  Contracts of the tests and sums over weights, and of the least number of crates. No conditions.
-/
import Derived.Test.YthnngekibkcgdaaWithin
import Derived.Test.YthnngekibkcgdaaInts
namespace Go.Proofs.Ythnngekibkcgdaa
open Go.RowKit
set_option linter.unusedVariables false

theorem ret_i {k : IntKind} {a b : Int} (h : a = b) : Ending.returned (.int k a) = .returned (.int k b) := by rw [h]
theorem inB_of' {x lo hi : Int} (h : inB x lo hi = true) : lo ≤ x ∧ x ≤ hi := by simpa [inB] using h
def allIn (n : Nat) (f : Nat → Nat → Int) (lo hi : Int) : Bool := allB n fun j => inB (f j 0) lo hi
theorem allIn_get {n : Nat} {f : Nat → Nat → Int} {lo hi : Int} (h : allIn n f lo hi = true) {j : Nat} (hj : j < n) : lo ≤ f j 0 ∧ f j 0 ≤ hi := by
  have := allB_get h hj
  simpa [inB] using this

set_option maxHeartbeats 1000000 in
theorem impl_allWithin (A : Option Addr) (n c : Nat) (f : Nat → Nat → Int) (lo hi : Int) (hn : n ≤ 9223372036854775807) (w : World) (hr : Recs w 1 A n f) :
    Calls Try.prog 28 #[.slice A n c, .int .i64 lo, .int .i64 hi] w fun e w' => e = .returned (.bool (allIn n f lo hi)) ∧ Ext w w' := by
  go_enter Try.func28, Try.ntmps28
  go_wp2
  go_loopw [11] (fun i wr => ∃ j : Nat, j ≤ n ∧ i = .int .i64 j ∧ Ext w wr ∧ ∀ q, q < j → inB (f q 0) lo hi = true) (fun i _ => n - (intOf i).toNat)
  case atStart => exact ⟨0, Nat.zero_le _, rfl, Ext.refl w, fun q hq => absurd hq (by omega)⟩
  case round =>
    obtain ⟨j, hj, rfl, ⟨gx, rfl⟩, hall⟩ := hrel
    have HALL := Lib.hid hall
    clear hall
    by_cases hlt : j < n
    · obtain ⟨b, o, rfl, hb, hc⟩ := hr.at1 hlt
      cases hin : inB (f j 0) lo hi
      · go_wp2_with (go_at_call 26; refine (within_any _ _ _ _).mono ?_; rintro e w' ⟨rfl, g, rfl⟩)
        go_ret
        exact ⟨(show Ending.returned (Value.bool false) = _ from by unfold allIn; rw [allB_no hlt hin]), Ext.gr w _⟩
      · go_wp2_with (go_at_call 26; refine (within_any _ _ _ _).mono ?_; rintro e w' ⟨rfl, g, rfl⟩)
        go_roundw
        case rel =>
          refine ⟨j + 1, by omega, by go_num, Ext.gr w _, fun q hq => ?_⟩
          by_cases e : q = j
          · subst e; exact hin
          · exact HALL.out q (by omega)
        case measure => simp [intOf]; omega
    · obtain rfl : j = n := by omega
      go_wp2
      go_ret
      exact ⟨(show Ending.returned (Value.bool true) = _ from by unfold allIn; rw [allB_yes HALL.out]), Ext.gr w _⟩

theorem wsum_bd {n : Nat} {f : Nat → Nat → Int} (h : allIn n f 0 10000 = true) (hn : n ≤ 1048576) {k : Nat} (hk : k ≤ n) : 0 ≤ psum (fun j => f j 0) k ∧ psum (fun j => f j 0) k ≤ 10485760000 := by
  have := psum_bd' (g := fun j => f j 0) (n := n) (fun j hj => allIn_get h hj) k hk
  omega
theorem psum_succ (g : Nat → Int) (k : Nat) : psum g (k + 1) = psum g k + g k := rfl

set_option maxHeartbeats 1000000 in
theorem impl_sumOf (A : Option Addr) (n c : Nat) (f : Nat → Nat → Int) (hn : n ≤ 1048576) (h : allIn n f 0 10000 = true) (w : World) (hr : Recs w 1 A n f) :
    Calls Try.prog 31 #[.slice A n c] w fun e w' => e = .returned (.int .i64 (psum (fun j => f j 0) n)) ∧ Ext w w' := by
  have H := Lib.hid h
  clear h
  go_enter Try.func31, Try.ntmps31
  go_wp2
  go_loop [3, 8] (fun v i => ∃ j : Nat, j ≤ n ∧ i = .int .i64 j ∧ v = .int .i64 (psum (fun j => f j 0) j)) (fun _ i => n - (intOf i).toNat)
  case atStart => exact ⟨0, Nat.zero_le _, rfl, rfl⟩
  case round =>
    obtain ⟨j, hj, rfl, rfl⟩ := hrel
    have hb := wsum_bd H.out hn hj
    by_cases hlt : j < n
    · obtain ⟨b, o, rfl, hb, hc⟩ := hr.at1 hlt
      have hv := allIn_get H.out hlt
      go_wp2
      go_round
      case rel => exact ⟨j + 1, by omega, by go_num, by rw [psum_succ]⟩
      case measure => simp [intOf]; omega
    · obtain rfl : j = n := by omega
      go_wp2
      go_ret
      exact ⟨rfl, Ext.refl w⟩

def crBound (n : Nat) (f : Nat → Nat → Int) (l : Int) : Int := if (allIn n f 0 10000 && inB l 1 100000) = true then (psum (fun j => f j 0) n + l - 1) / l else 0
theorem crBound_yes {n : Nat} {f : Nat → Nat → Int} {l : Int} (h : allIn n f 0 10000 = true) (k : inB l 1 100000 = true) : crBound n f l = (psum (fun j => f j 0) n + l - 1) / l := by unfold crBound; rw [h, k]; rfl
theorem crBound_no1 {n : Nat} {f : Nat → Nat → Int} {l : Int} (h : allIn n f 0 10000 = false) : crBound n f l = 0 := by unfold crBound; rw [h]; rfl
theorem crBound_no2 {n : Nat} {f : Nat → Nat → Int} {l : Int} (h : inB l 1 100000 = false) : crBound n f l = 0 := by unfold crBound; rw [h, Bool.and_false]; rfl

set_option maxHeartbeats 1000000 in
theorem impl_CrateBound (A : Option Addr) (n c : Nat) (f : Nat → Nat → Int) (l : Int) (hn : n ≤ 1048576) (w : World) (hr : Recs w 1 A n f) :
    Calls Try.prog 16 #[.slice A n c, .int .i64 l] w fun e w' => e = .returned (.int .i64 (crBound n f l)) ∧ Ext w w' := by
  cases h2 : inB l 1 100000
  · go_enter Try.func16, Try.ntmps16
    go_wp2_with (go_at_call 26; refine (within_any _ _ _ _).mono ?_; rintro e w' ⟨rfl, g, rfl⟩)
    go_ret
    exact ⟨ret_i (crBound_no2 h2).symm, Ext.gr w _⟩
  · have hl := inB_of' h2
    cases h1 : allIn n f 0 10000
    · go_enter Try.func16, Try.ntmps16
      go_wp2_with (first | (go_at_call 26; refine (within_any _ _ _ _).mono ?_; rintro e w' ⟨rfl, g, rfl⟩) | (go_at_call 28; refine (impl_allWithin _ _ _ _ _ _ (by omega) _ (hr.gr _)).mono ?_; rintro e w2 ⟨rfl, g, rfl⟩))
      go_ret
      exact ⟨ret_i (crBound_no1 h1).symm, Ext.gr w _⟩
    · have hb := wsum_bd h1 hn (Nat.le_refl n)
      have HR := Lib.hid (crBound_yes h1 h2)
      go_enter Try.func16, Try.ntmps16
      go_wp2_with (first | (go_at_call 26; refine (within_any _ _ _ _).mono ?_; rintro e w' ⟨rfl, g, rfl⟩) | (go_at_call 28; refine (impl_allWithin _ _ _ _ _ _ (by omega) _ (hr.gr _)).mono ?_; rintro e w2 ⟨rfl, g, rfl⟩) | (go_at_call 31; refine (impl_sumOf _ _ _ _ hn h1 _ (hr.gr _)).mono ?_; rintro e w2 ⟨rfl, g, rfl⟩))
      go_ret
      exact ⟨ret_i HR.out.symm, Ext.gr w _⟩

end Go.Proofs.Ythnngekibkcgdaa
