/-
  The law's copy of a window, its size, the test for equality of two windows, and marks. No conditions.
-/
import Derived.Test.YtmapnlmljhhciaaInts
import Derived.Test.YtmapnlmljhhciaaToNodeS
import Derived.Test.YtmapnlmljhhciaaToLeadS
import Derived.Test.YtmapnlmljhhciaaEqNodeS
import Derived.Test.YtmapnlmljhhciaaEqLeadS
namespace Go.Proofs.Ytmapnlmljhhciaa
open Go.RowKit
set_option linter.unusedVariables false

/-- A window has been made: rows of the call's own for its nodes and its leads. -/
def PostW (w : World) (n : Nat) (ns : List Int) (m : Nat) (ls : List Int) (e : Ending) (w' : World) : Prop :=
  ∃ A c B d b, e = .returned (.agg #[.slice A n c, .slice B m d]) ∧ (n ≤ c ∧ c ≤ 9223372036854775807 ∧ m ≤ d ∧ d ≤ 9223372036854775807) ∧ w.heap.size ≤ b ∧ Old b (.slice A n c) ∧
    MineS w.heap.size w' 59 2 (.slice A n c) n ns ∧ MineS b w' 67 2 (.slice B m d) m ls ∧ Ext w w'

set_option maxHeartbeats 4000000 in
theorem toWindow_any (A : Option Addr) (n c : Nat) (P : Nat → Nat → Int) (B : Option Addr) (m d : Nat) (L : Nat → Nat → Int) (hn : n ≤ 1048576) (hm : m ≤ 1048576) (w : World) (hr : Recs w 2 A n P) (hs : Recs w 2 B m L) :
    Calls Try.prog 11 #[.agg #[.slice A n c, .slice B m d]] w (PostW w n (flat 2 n P) m (flat 2 m L)) := by
  go_enter Try.func11, Try.ntmps11
  go_wp2_with fail
  refine (toNodeS_any _ _ _ P hn _ (hr.ext (((Ext.refl _).alloc _).alloc _ |>.alloc _))).mono ?_
  rintro e w1 ⟨A1, c1, rfl, i1, j1, m1, x1⟩
  have q1 := x1.cell (a := ⟨w.heap.size, 1, none⟩) (u := .slice B m d) (by simp [go_sem])
  have q2 := x1.cell (a := ⟨w.heap.size + 1, 0, none⟩) (u := .slice none 0 0) (by simp [go_sem])
  have q3 := x1.cell (a := ⟨w.heap.size + 1, 1, none⟩) (u := .slice none 0 0) (by simp [go_sem])
  have q4 := x1.cell (a := ⟨w.heap.size + 1 + 1, 0, none⟩) (u := .slice none 0 0) (by simp [go_sem])
  have q5 := x1.cell (a := ⟨w.heap.size + 1 + 1, 1, none⟩) (u := .slice none 0 0) (by simp [go_sem])
  have f2 := x1.frozen (a := ⟨w.heap.size + 1, 0, none⟩) (u := .slice none 0 0) (by simp [go_sem]) (by simp [go_sem])
  have f3 := x1.frozen (a := ⟨w.heap.size + 1, 1, none⟩) (u := .slice none 0 0) (by simp [go_sem]) (by simp [go_sem])
  have f4 := x1.frozen (a := ⟨w.heap.size + 1 + 1, 0, none⟩) (u := .slice none 0 0) (by simp [go_sem]) (by simp [go_sem])
  have f5 := x1.frozen (a := ⟨w.heap.size + 1 + 1, 1, none⟩) (u := .slice none 0 0) (by simp [go_sem]) (by simp [go_sem])
  have hz := x1.size
  simp only [World.size_alloc] at hz
  have m2 : MineS (w.heap.size + 3) w1 59 2 (.slice A1 n c1) n (flat 2 n P) := m1.more (by simp)
  have X : Ext w w1 := (((Ext.refl _).alloc _).alloc _ |>.alloc _).trans x1
  clear m1 x1
  have m3 := m2.far (p := ⟨w.heap.size + 1 + 1, 0, none⟩) (by simp) (.slice A1 n c1)
  have X3 := X.setCell (p := ⟨w.heap.size + 1 + 1, 0, none⟩) (by simp; omega) (.slice A1 n c1)
  have hs3 := hs.ext X3
  go_wp2_with fail
  refine (toLeadS_any _ _ _ L hm _ hs3).mono ?_
  rintro e w2 ⟨B1, d1, rfl, i2, j2, k1, x2⟩
  have hz3 := X3.size
  have hz2 := x2.size
  have hlt : w.heap.size + 1 + 1 < (w1.setCell ⟨w.heap.size + 1 + 1, 0, none⟩ (.slice A1 n c1)).heap.size := by simp [World.setCell]; omega
  have g2 := x2.cell (a := ⟨w.heap.size + 1, 0, none⟩) (u := .slice none 0 0) (by simp [go_sem, q2])
  have g3 := x2.cell (a := ⟨w.heap.size + 1, 1, none⟩) (u := .slice none 0 0) (by simp [go_sem, q3])
  have g4 := x2.cell (a := ⟨w.heap.size + 1 + 1, 0, none⟩) (u := .slice A1 n c1) (by simp [go_sem, q4])
  have g5 := x2.cell (a := ⟨w.heap.size + 1 + 1, 1, none⟩) (u := .slice none 0 0) (by simp [go_sem, q5])
  have e2 := x2.frozen (a := ⟨w.heap.size + 1, 0, none⟩) (u := .slice none 0 0) (by simp [go_sem, q2]) (by simp [go_sem, f2])
  have e3 := x2.frozen (a := ⟨w.heap.size + 1, 1, none⟩) (u := .slice none 0 0) (by simp [go_sem, q3]) (by simp [go_sem, f3])
  have e4 := x2.frozen (a := ⟨w.heap.size + 1 + 1, 0, none⟩) (u := .slice A1 n c1) (by simp [go_sem, q4]) (by simp [go_sem, f4])
  have e5 := x2.frozen (a := ⟨w.heap.size + 1 + 1, 1, none⟩) (u := .slice none 0 0) (by simp [go_sem, q5]) (by simp [go_sem, f5])
  have m4 := m3.ext x2
  have o4 : Old (w1.setCell ⟨w.heap.size + 1 + 1, 0, none⟩ (.slice A1 n c1)).heap.size (.slice A1 n c1) := m3.old
  have X4 := X3.trans x2
  clear q1 q2 q3 q4 q5 f2 f3 f4 f5 m2 m3 X X3 hs3 x2
  generalize hb0 : (w1.setCell ⟨w.heap.size + 1 + 1, 0, none⟩ (.slice A1 n c1)).heap.size = b0 at *
  clear hb0
  go_wp2
  refine bodyPost_ret (v := .agg #[.slice A1 n c1, .slice B1 m d1]) (by simp [results, Try.results11, go_sem, g2, g3]) rfl ⟨A1, c1, B1, d1, b0, rfl, ⟨i1, j1, i2, j2⟩, hz3, o4, ?_, ?_, ?_⟩
  · refine MineS.more (base := w.heap.size + 3) ?_ (by omega)
    repeat (first | exact m4 | refine MineS.far ?_ (by first | (simp; done) | (simp; omega)) _)
  · repeat (first | exact k1 | refine MineS.far ?_ (by first | (simp; done) | (simp; omega)) _)
  · repeat (first | exact X4 | (refine Ext.setCell ?_ (by first | (simp; done) | (simp; omega)) _))
set_option maxHeartbeats 2000000 in
theorem eqWindow_yes (A B A2 B2 : Option Addr) (n c c2 m d d2 : Nat) (P L P2 L2 : Nat → Nat → Int) (hn : n ≤ 9223372036854775807) (hm : m ≤ 9223372036854775807) (w : World) (hr : Recs w 2 A n P) (hs : Recs w 2 B m L) (hr2 : Recs w 2 A2 n P2) (hs2 : Recs w 2 B2 m L2)
    (he : ∀ i, i < n → ∀ j, j < 2 → P i j = P2 i j) (hf : ∀ i, i < m → ∀ j, j < 2 → L i j = L2 i j) :
    Calls Try.prog 14 #[.agg #[.slice A n c, .slice B m d], .agg #[.slice A2 n c2, .slice B2 m d2]] w fun e w' => e = .returned (.bool true) ∧ Ext w w' := by
  have HE := Lib.hid he
  have HF := Lib.hid hf
  clear he hf
  go_enter Try.func14, Try.ntmps14
  go_wp2_with fail
  refine (eqNodeS_yes _ _ _ _ _ P P2 hn _ (hr.ext (((Ext.refl _).alloc _).alloc _)) (hr2.ext (((Ext.refl _).alloc _).alloc _)) HE.out).mono ?_
  rintro e w1 ⟨rfl, x1⟩
  have q1 := x1.cell (a := ⟨w.heap.size, 1, none⟩) (u := .slice B m d) (by simp [go_sem])
  have q2 := x1.cell (a := ⟨w.heap.size + 1, 1, none⟩) (u := .slice B2 m d2) (by simp [go_sem])
  have X := (((Ext.refl w).alloc _).alloc _).trans x1
  go_wp2_with fail
  refine (eqLeadS_yes _ _ _ _ _ L L2 hm _ (hs.ext X) (hs2.ext X) HF.out).mono ?_
  rintro e w2 ⟨rfl, x2⟩
  go_wp2
  go_ret
  exact ⟨rfl, X.trans x2⟩
set_option maxHeartbeats 2000000 in
theorem szWindow_big (A B : Option Addr) (n c m d : Nat) (hn : n ≤ 9223372036854775807) (hm : m ≤ 9223372036854775807) (hb : 1048576 < n + m) (w : World) :
    Calls Try.prog 9 #[.agg #[.slice A n c, .slice B m d], .int .i64 1048576] w fun e w' => e = .returned (.int .i64 (-1)) ∧ Ext w w' := by
  by_cases h : 1048576 < n
  · go_enter Try.func9, Try.ntmps9
    go_wp2_with fail
    refine (szNodeS_any A n c 1048576 (by omega) (by omega) _).mono ?_
    rintro e w1 ⟨rfl, x1⟩
    rw [if_pos (by omega)]
    go_wp2
    go_ret
    exact ⟨rfl, ((Ext.refl _).alloc _).trans x1⟩
  · go_enter Try.func9, Try.ntmps9
    go_wp2_with fail
    refine (szNodeS_any A n c 1048576 (by omega) (by omega) _).mono ?_
    rintro e w1 ⟨rfl, x1⟩
    rw [if_neg (by omega)]
    have q1 := x1.cell (a := ⟨w.heap.size, 1, none⟩) (u := .slice B m d) (by simp [go_sem])
    have X := ((Ext.refl w).alloc _).trans x1
    have h2 : ¬ (1048576 : Int) - n < 0 := by omega
    go_wp2_with fail
    refine (szLeadS_any B m d (1048576 - n) (by omega) (by omega) _).mono ?_
    rintro e w2 ⟨rfl, x2⟩
    rw [if_pos (by omega)]
    go_wp2
    go_ret
    exact ⟨rfl, X.trans x2⟩
set_option maxHeartbeats 2000000 in
theorem szWindow_ok (A B : Option Addr) (n c m d : Nat) (hb : n + m ≤ 1048576) (w : World) :
    Calls Try.prog 9 #[.agg #[.slice A n c, .slice B m d], .int .i64 1048576] w fun e w' => (∃ z : Int, 0 ≤ z ∧ e = .returned (.int .i64 z)) ∧ Ext w w' := by
  have h2 : ¬ (1048576 : Int) - n < 0 := by omega
  have h3 : ¬ (1048576 : Int) - n - m < 0 := by omega
  have HP : Calls Try.prog 9 #[.agg #[.slice A n c, .slice B m d], .int .i64 1048576] w fun e w' => e = .returned (.int .i64 (1048576 - n - m)) ∧ Ext w w' := by
    go_enter Try.func9, Try.ntmps9
    go_wp2_with fail
    refine (szNodeS_any A n c 1048576 (by omega) (by omega) _).mono ?_
    rintro e w1 ⟨rfl, x1⟩
    rw [if_neg (by omega)]
    have q1 := x1.cell (a := ⟨w.heap.size, 1, none⟩) (u := .slice B m d) (by simp [go_sem])
    have X := ((Ext.refl w).alloc _).trans x1
    go_wp2_with fail
    refine (szLeadS_any B m d (1048576 - n) (by omega) (by omega) _).mono ?_
    rintro e w2 ⟨rfl, x2⟩
    rw [if_neg (by omega)]
    go_wp2
    go_ret
    exact ⟨rfl, X.trans x2⟩
  exact HP.mono fun e w' ⟨he, hw⟩ => ⟨⟨_, by omega, he⟩, hw⟩

end Go.Proofs.Ytmapnlmljhhciaa
