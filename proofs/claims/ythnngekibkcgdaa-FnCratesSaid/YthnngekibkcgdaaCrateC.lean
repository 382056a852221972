/-
  Contracts of the test on a crate. No conditions.
-/
import Derived.Test.YthnngekibkcgdaaCrateB
namespace Go.Proofs.Ythnngekibkcgdaa
open Go.RowKit
set_option linter.unusedVariables false

def crOk (n : Nat) (f : Nat → Nat → Int) (m : Nat) (p : Nat → Nat → Int) (l : Int) : Bool := inB (crateW n f m p l) 0 l
theorem crateW_rng {n m : Nat} {f p : Nat → Nat → Int} {l : Int} (hm : m ≤ 1048576) : -1 ≤ crateW n f m p l ∧ crateW n f m p l ≤ 10485760000 := by
  cases h : crateB n f m p l
  · rw [crateW_no h]; omega
  · rw [crateW_yes h]
    unfold crateB at h
    rw [Bool.and_eq_true, Bool.and_eq_true] at h
    have := wsum_rng h.1.1 h.2 hm (Nat.le_refl m)
    omega
set_option maxHeartbeats 2000000 in
theorem impl_CrateOk (A : Option Addr) (n c : Nat) (f : Nat → Nat → Int) (B : Option Addr) (m k : Nat) (p : Nat → Nat → Int) (l : Int) (hn : n ≤ 1048576) (hm : m ≤ 1048576) (w : World) (hr : Recs w 1 A n f) (hp : Recs w 1 B m p) :
    Calls Try.prog 18 #[.slice A n c, .agg #[.slice B m k, .int .i64 l]] w fun e w' => e = .returned (.bool (crOk n f m p l)) ∧ Ext w w' := by
  have hb := crateW_rng (n := n) (f := f) (p := p) (l := l) hm
  have HC := Lib.hid (fun W (h1 : Recs W 1 A n f) (h2 : Recs W 1 B m p) => impl_CrateWeight A n c f B m k p l hn hm W h1 h2)
  have HO : Hid (crOk n f m p l = inB (crateW n f m p l) 0 l) := Lib.hid rfl
  generalize crateW n f m p l = z at *
  by_cases h1 : 0 ≤ z <;> by_cases h2 : z ≤ l
  all_goals
    go_enter Try.func18, Try.ntmps18
    go_wp2_with (go_at_call 17; refine (HC.out _ (hr.ext ((Ext.refl _).alloc _)) (hp.ext ((Ext.refl _).alloc _))).mono ?_; rintro e w2 ⟨rfl, g, rfl⟩)
    go_ret
    exact ⟨(show Ending.returned (Value.bool _) = _ from by rw [HO.out]; simp [inB]; try omega), by repeat (first | exact Ext.refl _ | apply Ext.wgr | apply Ext.drew | apply Ext.drewN | apply Ext.alloc)⟩
end Go.Proofs.Ythnngekibkcgdaa
