/-
  The law's copy of a crate, its size, and the test for equality of two crates. No conditions.
-/
import Derived.Test.YtgfnkmalecfhbaaInts
import Derived.Deep.RegionHeld3
namespace Go.Proofs.Ytgfnkmalecfhbaa
open Go.RowKit
set_option linter.unusedVariables false

theorem ret_k {k : IntKind} {a b : Int} (h : a = b) : Ending.returned (.int k a) = .returned (.int k b) := by rw [h]
/-- A crate has been made: a row of the call's own for its panes. -/
def PostC (w : World) (E : TypeId) (n : Nat) (zs : List Int) (l : Int) (e : Ending) (w' : World) : Prop :=
  ∃ A c, e = .returned (.agg #[.slice A n c, .int .i64 l]) ∧ n ≤ c ∧ c ≤ 9223372036854775807 ∧ Mine w.heap.size w' E (.slice A n c) n zs ∧ Ext w w'
set_option maxHeartbeats 2000000 in
theorem toCrate_any (A : Option Addr) (n c : Nat) (f : Nat → Nat → Int) (l : Int) (hn : n ≤ 1048576) (w : World) (hr : Recs w 1 A n f) :
    Calls Try.prog 47 #[.agg #[.slice A n c, .int .i64 l]] w (PostC w 3 n (tab n fun k => f k 0) l) := by
  go_enter Try.func47, Try.ntmps47
  go_wp2_with fail
  refine (toIntS_any _ _ _ f hn _ (hr.ext (((Ext.refl _).alloc _).alloc _ |>.alloc _))).mono ?_
  rintro e w1 ⟨A1, c1, rfl, i1, j1, m1, x1⟩
  have q1 := x1.cell (a := ⟨w.heap.size, 1, none⟩) (u := .int .i64 l) (by simp [go_sem])
  have q2 := x1.cell (a := ⟨w.heap.size + 1, 0, none⟩) (u := .slice none 0 0) (by simp [go_sem])
  have q3 := x1.cell (a := ⟨w.heap.size + 1, 1, none⟩) (u := .int .i64 0) (by simp [go_sem])
  have q4 := x1.cell (a := ⟨w.heap.size + 1 + 1, 0, none⟩) (u := .slice none 0 0) (by simp [go_sem])
  have q5 := x1.cell (a := ⟨w.heap.size + 1 + 1, 1, none⟩) (u := .int .i64 0) (by simp [go_sem])
  have f2 := x1.frozen (a := ⟨w.heap.size + 1, 0, none⟩) (u := .slice none 0 0) (by simp [go_sem]) (by simp [go_sem])
  have f3 := x1.frozen (a := ⟨w.heap.size + 1, 1, none⟩) (u := .int .i64 0) (by simp [go_sem]) (by simp [go_sem])
  have f4 := x1.frozen (a := ⟨w.heap.size + 1 + 1, 0, none⟩) (u := .slice none 0 0) (by simp [go_sem]) (by simp [go_sem])
  have f5 := x1.frozen (a := ⟨w.heap.size + 1 + 1, 1, none⟩) (u := .int .i64 0) (by simp [go_sem]) (by simp [go_sem])
  have hs := x1.size
  simp only [World.size_alloc] at hs
  have m2 : Mine (w.heap.size + 3) w1 3 (.slice A1 n c1) n (tab n fun k => f k 0) := m1.more (by simp)
  have X : Ext w w1 := (((Ext.refl _).alloc _).alloc _ |>.alloc _).trans x1
  clear m1 x1
  go_wp2
  refine bodyPost_ret (v := .agg #[.slice A1 n c1, .int .i64 l]) (by simp [results, Try.results47, go_sem, q2, q3]) rfl ⟨A1, c1, rfl, i1, j1, ?_, ?_⟩
  · refine Mine.more (base := w.heap.size + 3) ?_ (by omega)
    repeat (first | exact m2 | refine Mine.far ?_ (by first | (simp; done) | (simp; omega)) _)
  · repeat (first | exact X | (refine Ext.setCell ?_ (by first | (simp; done) | (simp; omega)) _))

set_option maxHeartbeats 1000000 in
theorem szIntS_any (A : Option Addr) (n c : Nat) (k : Int) (hk : 0 ≤ k ∧ k ≤ 1048576) (hn : n ≤ 9223372036854775807) (w : World) :
    Calls Try.prog 61 #[.slice A n c, .int .i64 k] w fun e w' => e = .returned (.int .i64 (if k - n < 0 then -1 else k - n)) ∧ Ext w w' := by
  by_cases h : k - n < 0
  · go_enter Try.func61, Try.ntmps61
    go_wp2
    go_ret
    exact ⟨ret_k (by first | rfl | rw [if_pos (by omega)]), Ext.refl w⟩
  · go_enter Try.func61, Try.ntmps61
    go_wp2
    go_ret
    exact ⟨ret_k (by first | rfl | rw [if_neg (by omega)]), Ext.refl w⟩
set_option maxHeartbeats 1000000 in
theorem szCrate_any (A : Option Addr) (n c : Nat) (l k : Int) (hk : 0 ≤ k ∧ k ≤ 1048576) (hn : n ≤ 9223372036854775807) (w : World) :
    Calls Try.prog 45 #[.agg #[.slice A n c, .int .i64 l], .int .i64 k] w fun e w' => e = .returned (.int .i64 (if k - n < 0 then -1 else k - n)) ∧ Ext w w' := by
  have HS := fun W => szIntS_any A n c k hk hn W
  by_cases h : k - n < 0
  · rw [if_pos h]
    rw [if_pos h] at HS
    have HS' := Lib.hid HS
    clear HS
    go_enter Try.func45, Try.ntmps45
    go_wp2_with (go_at_call 61; refine (HS'.out _).mono ?_; rintro e w1 ⟨rfl, g, rfl⟩)
    go_ret
    exact ⟨rfl, by repeat (first | exact Ext.refl _ | apply Ext.wgr | apply Ext.drew | apply Ext.drewN | apply Ext.alloc)⟩
  · rw [if_neg h]
    rw [if_neg h] at HS
    have HS' := Lib.hid HS
    clear HS
    go_enter Try.func45, Try.ntmps45
    go_wp2_with (go_at_call 61; refine (HS'.out _).mono ?_; rintro e w1 ⟨rfl, g, rfl⟩)
    go_ret
    exact ⟨rfl, by repeat (first | exact Ext.refl _ | apply Ext.wgr | apply Ext.drew | apply Ext.drewN | apply Ext.alloc)⟩
set_option maxHeartbeats 1000000 in
theorem eqCrate_yes (A B : Option Addr) (n c k : Nat) (f g : Nat → Nat → Int) (l : Int) (hn : n ≤ 9223372036854775807) (w : World) (hr : Recs w 1 A n f) (hs : Recs w 1 B n g) (he : ∀ j, j < n → f j 0 = g j 0) :
    Calls Try.prog 49 #[.agg #[.slice A n c, .int .i64 l], .agg #[.slice B n k, .int .i64 l]] w fun e w' => e = .returned (.bool true) ∧ Ext w w' := by
  go_enter Try.func49, Try.ntmps49
  go_wp2_with (go_at_call 25; refine (eqIntS_yes _ _ _ _ _ f g hn _ (hr.ext (((Ext.refl _).alloc _).alloc _)) (hs.ext (((Ext.refl _).alloc _).alloc _)) he).mono ?_; rintro e w1 ⟨rfl, g, rfl⟩)
  go_ret
  exact ⟨rfl, by repeat (first | exact Ext.refl _ | apply Ext.wgr | apply Ext.drew | apply Ext.drewN | apply Ext.alloc)⟩

end Go.Proofs.Ytgfnkmalecfhbaa
