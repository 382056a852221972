/-
  Texts of one kind, one behind the other: CodeA HasL. No conditions.
-/
import Derived.Test.YtgmhmlhdiklaaaaInts
import Derived.Test.YtgmhmlhdiklaaaaKitD
/- CodeA -/
namespace Go.Proofs.Ytgmhmlhdiklaaaa
open Go.RowKit
set_option linter.unusedVariables false

set_option maxHeartbeats 1000000 in
theorem big_any (A : Option Addr) (n c : Nat) (hn : n ≤ 9223372036854775807) (w : World) :
    Calls Try.prog 8 #[.slice A n c] w fun e w' => e = .returned (.bool (decide (1048576 < n))) ∧ Ext w w' := by
  go_enter Try.func8, Try.ntmps8
  go_wp2
  go_ret
  exact ⟨by simp; omega, Ext.refl w⟩
/-- Some number from 0 to 255. -/
def PostAt (w : World) (e : Ending) (w' : World) : Prop := ∃ z : Int, e = .returned (.int .i64 z) ∧ 0 ≤ z ∧ z ≤ 255 ∧ Ext w w'
set_option maxHeartbeats 1000000 in
theorem at_any (A : Option Addr) (n c : Nat) (g : Nat → Int) (i : Int) (hn : n ≤ 1048576) (h0 : 0 ≤ i) (h1 : i ≤ 100000) (w : World) (hr : BRecs w A n g) :
    Calls Try.prog 10 #[.slice A n c, .int .i64 i] w (PostAt w) := by
  by_cases hz : n = 0
  · subst hz
    go_enter Try.func10, Try.ntmps10
    go_wp2
    go_ret
    exact ⟨0, rfl, by omega, by omega, Ext.refl w⟩
  · have hp : 0 < n := by omega
    obtain ⟨b, o, rfl, hb, hc⟩ := hr.1 hp
    have hm : 0 ≤ (i * 5 + 1) % (n : Int) := Int.emod_nonneg _ (by omega)
    have hm2 : (i * 5 + 1) % (n : Int) < n := Int.emod_lt_of_pos _ (by omega)
    have hcell := hc ((i * 5 + 1) % (n : Int)).toNat (by omega)
    have hbd := hr.2 ((i * 5 + 1) % (n : Int)).toNat
    have hz1 : ((n : Int) == 0) = false := by simpa using hz
    have hz2 : (n == 0) = false := by simpa using hz
    clear hc hz
    go_enter Try.func10, Try.ntmps10
    go_wp2
    go_ret
    exact ⟨_, rfl, hbd.1, hbd.2, Ext.refl w⟩
def hasB (n : Nat) (f : Nat → Nat → Int) (k : Int) : Bool := (List.range n).any fun j => decide (f j 0 = k)
theorem hasB_yes {n : Nat} {f : Nat → Nat → Int} {k : Int} {j : Nat} (hj : j < n) (h : f j 0 = k) : hasB n f k = true := by
  unfold hasB; rw [List.any_eq_true]; exact ⟨j, by simpa using hj, by simpa using h⟩
theorem hasB_no {n : Nat} {f : Nat → Nat → Int} {k : Int} (h : ∀ j, j < n → f j 0 ≠ k) : hasB n f k = false := by
  cases q : hasB n f k
  · rfl
  · unfold hasB at q; rw [List.any_eq_true] at q; obtain ⟨j, hj, e⟩ := q; exact absurd (by simpa using e) (h j (by simpa using hj))
set_option maxHeartbeats 1000000 in
theorem has_any (A : Option Addr) (n c : Nat) (f : Nat → Nat → Int) (k : Int) (hn : n ≤ 9223372036854775807) (w : World) (hr : Recs w 1 A n f) :
    Calls Try.prog 16 #[.slice A n c, .int .i64 k] w fun e w' => e = .returned (.bool (hasB n f k)) ∧ Ext w w' := by
  go_enter Try.func16, Try.ntmps16
  go_wp2
  go_loop [5] (fun i => ∃ j : Nat, j ≤ n ∧ i = .int .i64 j ∧ ∀ q, q < j → f q 0 ≠ k) (fun i => n - (intOf i).toNat)
  case atStart => exact ⟨0, Nat.zero_le _, rfl, fun q hq => absurd hq (by omega)⟩
  case round =>
    obtain ⟨j, hj, rfl, hall⟩ := hrel
    have HALL := Lib.hid hall
    clear hall
    by_cases hlt : j < n
    · obtain ⟨b, o, rfl, hb, hc⟩ := hr.at1 hlt
      by_cases he : f j 0 = k
      · have HE := Lib.hid (hasB_yes hlt he)
        have hq : (f j 0 == k) = true := by simpa using he
        clear he
        go_wp2
        go_ret
        exact ⟨(show Ending.returned (Value.bool true) = _ from by rw [HE.out]), Ext.refl w⟩
      · have HE := Lib.hid he
        have hq : (f j 0 == k) = false := by simpa using he
        clear he
        go_wp2
        go_round
        case rel =>
          refine ⟨j + 1, by omega, by go_num, fun q hq => ?_⟩
          by_cases e : q = j
          · subst e; exact HE.out
          · exact HALL.out q (by omega)
        case measure => simp [intOf]; omega
    · obtain rfl : j = n := by omega
      go_wp2
      go_ret
      exact ⟨(show Ending.returned (Value.bool false) = _ from by rw [hasB_no HALL.out]), Ext.refl w⟩

end Go.Proofs.Ytgmhmlhdiklaaaa

/- HasL -/
namespace Go.Proofs.Ytgmhmlhdiklaaaa
open Go.RowKit
set_option linter.unusedVariables false

theorem hasB_mem {l : List Int} {z : Int} (h : z ∈ l) : hasB l.length (fun j _ => ix l j) z = true := by
  obtain ⟨j, hj, e⟩ := List.getElem_of_mem h
  exact hasB_yes hj (by show ix l j = z; rw [ix_get hj]; exact e)
theorem hasB_not {l : List Int} {z : Int} (h : ¬ z ∈ l) : hasB l.length (fun j _ => ix l j) z = false := by
  refine hasB_no fun j hj e => h ?_
  have e' : ix l j = z := e
  rw [ix_get hj] at e'
  rw [← e']
  exact List.getElem_mem hj
theorem has_pick {n k : Nat} {g : Nat → Bool} (hk : k < n) : hasB (pick n g).length (fun j _ => ix (pick n g) j) (k : Int) = g k := by
  cases e : g k
  · refine hasB_not fun h => ?_
    obtain ⟨j, _, h2, h3⟩ := pick_mem.1 h
    have : j = k := by omega
    subst this
    rw [e] at h2; cases h2
  · exact hasB_mem (pick_mem.2 ⟨k, hk, e, rfl⟩)
end Go.Proofs.Ytgmhmlhdiklaaaa
