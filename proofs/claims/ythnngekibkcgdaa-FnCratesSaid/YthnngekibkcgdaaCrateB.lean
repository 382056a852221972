/-
  Contracts of the weight of a crate, and of the test on it. No conditions.
-/
import Derived.Test.YthnngekibkcgdaaCrateA
import Derived.Test.YthnngekibkcgdaaRising
import Derived.Test.YthnngekibkcgdaaL16
namespace Go.Proofs.Ythnngekibkcgdaa
open Go.RowKit
set_option linter.unusedVariables false

/-- The weight of the panes p (m of them) among n weights f. -/
def wsum (f p : Nat → Nat → Int) (k : Nat) : Int := psum (fun j => f (p j 0).toNat 0) k
def crateB (n : Nat) (f : Nat → Nat → Int) (m : Nat) (p : Nat → Nat → Int) (l : Int) : Bool := allIn n f 0 10000 && inB l 0 100000 && risB m p 0 ((n : Int) - 1)
def crateW (n : Nat) (f : Nat → Nat → Int) (m : Nat) (p : Nat → Nat → Int) (l : Int) : Int := if crateB n f m p l = true then wsum f p m else -1
theorem crateW_yes {n m : Nat} {f p : Nat → Nat → Int} {l : Int} (h : crateB n f m p l = true) : crateW n f m p l = wsum f p m := if_pos h
theorem crateW_no {n m : Nat} {f p : Nat → Nat → Int} {l : Int} (h : crateB n f m p l = false) : crateW n f m p l = -1 := if_neg (by rw [h]; simp)
theorem risB_get {n : Nat} {f : Nat → Nat → Int} {lo hi : Int} (h : risB n f lo hi = true) {j : Nat} (hj : j < n) : lo ≤ f j 0 ∧ f j 0 ≤ hi := by
  have := allB_get h hj
  unfold risAt at this
  rw [Bool.and_eq_true] at this
  exact inB_of' this.1
theorem wsum_rng {n m : Nat} {f p : Nat → Nat → Int} (h : allIn n f 0 10000 = true) (hr : risB m p 0 ((n : Int) - 1) = true) (hm : m ≤ 1048576) {k : Nat} (hk : k ≤ m) : 0 ≤ wsum f p k ∧ wsum f p k ≤ 10485760000 := by
  have := psum_bd' (g := fun j => f (p j 0).toNat 0) (n := m) (a := 0) (b := 10000) (fun j hj => by
    have h1 := risB_get hr hj
    exact allIn_get h (by omega)) k hk
  unfold wsum
  omega
theorem wsum_succ (f p : Nat → Nat → Int) (k : Nat) : wsum f p (k + 1) = wsum f p k + f (p k 0).toNat 0 := rfl

set_option maxHeartbeats 4000000 in
theorem impl_CrateWeight (A : Option Addr) (n c : Nat) (f : Nat → Nat → Int) (B : Option Addr) (m k : Nat) (p : Nat → Nat → Int) (l : Int) (hn : n ≤ 1048576) (hm : m ≤ 1048576) (w : World) (hr : Recs w 1 A n f) (hp : Recs w 1 B m p) :
    Calls Try.prog 17 #[.slice A n c, .agg #[.slice B m k, .int .i64 l]] w fun e w' => e = .returned (.int .i64 (crateW n f m p l)) ∧ Ext w w' := by
  cases h : crateB n f m p l
  · cases h1 : allIn n f 0 10000 <;> cases h2 : inB l 0 100000 <;> cases h3 : risB m p 0 ((n : Int) - 1)
    all_goals first
      | (exfalso; unfold crateB at h; rw [h1, h2, h3] at h; simp at h; done)
      | (have HR := Lib.hid (crateW_no h)
         clear h
         go_enter Try.func17, Try.ntmps17
         go_wp2_with (first | (go_at_call 26; refine (within_any _ _ _ _).mono ?_; rintro e w' ⟨rfl, g, rfl⟩) | (go_at_call 28; refine (impl_allWithin _ _ _ _ _ _ (by omega) _ (hr.ext ((Ext.refl _).alloc _ |>.wgr _))).mono ?_; rintro e w2 ⟨rfl, g, rfl⟩) | (go_at_call 32; refine (impl_rising _ _ _ _ _ _ (by omega) _ (hp.ext ((Ext.refl _).alloc _ |>.wgr _))).mono ?_; rintro e w2 ⟨rfl, g, rfl⟩))
         go_ret
         exact ⟨ret_i HR.out.symm, by repeat (first | exact Ext.refl _ | apply Ext.wgr | apply Ext.drew | apply Ext.drewN | apply Ext.alloc)⟩)
  · have HR := Lib.hid (crateW_yes h)
    have hh := h
    unfold crateB at hh
    rw [Bool.and_eq_true, Bool.and_eq_true] at hh
    obtain ⟨⟨h1, h2⟩, h3⟩ := hh
    clear h
    go_enter Try.func17, Try.ntmps17
    go_wp2_with (first | (go_at_call 26; refine (within_any _ _ _ _).mono ?_; rintro e w' ⟨rfl, g, rfl⟩) | (go_at_call 28; refine (impl_allWithin _ _ _ _ _ _ (by omega) _ (hr.ext ((Ext.refl _).alloc _ |>.wgr _))).mono ?_; rintro e w2 ⟨rfl, g, rfl⟩) | (go_at_call 32; refine (impl_rising _ _ _ _ _ _ (by omega) _ (hp.ext ((Ext.refl _).alloc _ |>.wgr _))).mono ?_; rintro e w2 ⟨rfl, g, rfl⟩))
    have H1 := Lib.hid h1
    have H3 := Lib.hid h3
    clear h1 h2 h3
    go_loopw [5, 29] (fun v i wr => ∃ j : Nat, j ≤ m ∧ i = .int .i64 j ∧ v = .int .i64 (wsum f p j) ∧ Ext (w.alloc (.cells #[.slice B m k, .int .i64 l] 44)) wr) (fun _ i _ => m - (intOf i).toNat)
    case atStart => exact ⟨0, Nat.zero_le _, rfl, rfl, Ext.gr _ _⟩
    case round =>
      obtain ⟨j, hj, rfl, rfl, ⟨gx, rfl⟩⟩ := hrel
      have hb := wsum_rng H1.out H3.out hm hj
      by_cases hlt : j < m
      · obtain ⟨b, o, rfl, hb2, hc⟩ := hp.at1 hlt
        have hi := risB_get H3.out hlt
        obtain ⟨b3, o3, rfl, hb3, hc3⟩ := hr.at1 (k := (p j 0).toNat) (by omega)
        have hv := allIn_get H1.out (j := (p j 0).toNat) (by omega)
        go_wp2
        go_roundw
        case rel => exact ⟨j + 1, by omega, by go_num, by rw [wsum_succ], Ext.gr _ _⟩
        case measure => simp [intOf]; omega
      · obtain rfl : j = m := by omega
        go_wp2
        go_ret
        exact ⟨ret_i HR.out.symm, by repeat (first | exact Ext.refl _ | apply Ext.wgr | apply Ext.drew | apply Ext.drewN | apply Ext.alloc)⟩

end Go.Proofs.Ythnngekibkcgdaa
