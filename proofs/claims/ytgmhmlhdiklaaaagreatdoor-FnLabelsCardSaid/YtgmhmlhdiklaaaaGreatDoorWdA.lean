/-
  Windows in new memory: what a call that makes one hands back (PostWn); the reference's five shapes. No conditions.
-/
import Derived.Deep.DeepCutAuto
import Derived.Deep.CutRange
import Derived.Deep.DrawnRows
import Derived.RowKit3
import Derived.Laws.OwnMore
import Derived.Laws.Closers25b
import Derived.Deep.RegionHeld
import Derived.Test.YtgmhmlhdiklaaaaGreatDoorInts
import Derived.Test.YtgmhmlhdiklaaaaGreatDoorKitE
import Derived.Test.YtgmhmlhdiklaaaaGreatDoorKitB
import Derived.Test.YtgmhmlhdiklaaaaGreatDoorRows
namespace Go.Proofs.YtgmhmlhdiklaaaaGreatDoor
open Go.RowKit
set_option linter.unusedVariables false

def FW (zs : List Int) : Nat → Nat → Int := fun k j => ix zs (k * 2 + j)
/-- The window v lies in the call's own memory: its nodes zs (n of them), its leads ys (m of them). -/
def OwnWn (base : Nat) (w : World) (A : Option Addr) (n c : Nat) (zs : List Int) (B : Option Addr) (m d : Nat) (ys : List Int) : Prop :=
  n ≤ c ∧ c ≤ 9223372036854775807 ∧ m ≤ d ∧ d ≤ 9223372036854775807 ∧ MineS base w 38 2 (.slice A n c) n zs ∧ MineS base w 71 2 (.slice B m d) m ys
/-- A call hands back a window of its own. -/
def PostWn (w : World) (n : Nat) (zs : List Int) (m : Nat) (ys : List Int) (e : Ending) (w' : World) : Prop :=
  ∃ A c B d, e = .returned (.agg #[.slice A n c, .slice B m d]) ∧ OwnWn w.heap.size w' A n c zs B m d ys ∧ Ext w w'
section
variable {base n m c d : Nat} {w w' : World} {A B : Option Addr} {zs ys : List Int}
theorem OwnWn.ext (h : OwnWn base w A n c zs B m d ys) (x : Ext w w') : OwnWn base w' A n c zs B m d ys :=
  ⟨h.1, h.2.1, h.2.2.1, h.2.2.2.1, h.2.2.2.2.1.ext x, h.2.2.2.2.2.ext x⟩
theorem OwnWn.more {base' : Nat} (h : OwnWn base w A n c zs B m d ys) (hb : base' ≤ base) : OwnWn base' w A n c zs B m d ys :=
  ⟨h.1, h.2.1, h.2.2.1, h.2.2.2.1, h.2.2.2.2.1.more hb, h.2.2.2.2.2.more hb⟩
theorem OwnWn.far (h : OwnWn base w A n c zs B m d ys) {p : Addr} (hp : p.block < base) (u : Value) : OwnWn base (w.setCell p u) A n c zs B m d ys :=
  ⟨h.1, h.2.1, h.2.2.1, h.2.2.2.1, h.2.2.2.2.1.far hp u, h.2.2.2.2.2.far hp u⟩
theorem OwnWn.grown {q : Nat} (h : OwnWn base w A n c zs B m d ys) (hg : w.grownBy w' (some q)) (hq : q < base) : OwnWn base w' A n c zs B m d ys :=
  ⟨h.1, h.2.1, h.2.2.1, h.2.2.2.1, h.2.2.2.2.1.kept hg (.inr fun e => by have := h.2.2.2.2.1.lt q e; omega), h.2.2.2.2.2.kept hg (.inr fun e => by have := h.2.2.2.2.2.lt q e; omega)⟩
theorem OwnWn.recsP (h : OwnWn base w A n c zs B m d ys) : Recs w 2 A n (FW zs) := h.2.2.2.2.1.recs
theorem OwnWn.recsL (h : OwnWn base w A n c zs B m d ys) : Recs w 2 B m (FW ys) := h.2.2.2.2.2.recs
end
theorem mineS_lit (w : World) (E : TypeId) (cs : Array Value) (zs : List Int) (n : Nat) (base : Nat) (hb : base ≤ w.heap.size) (hn : n ≤ 1000) (hz : zs.length = n * 2) (hc : cs.toList = zs.map (Value.int .i64)) (hi : ∀ z ∈ zs, I64 z) :
    MineS base (w.alloc (.cells cs E)) E 2 (.slice (some ⟨w.heap.size, 0, none⟩) n n) n zs := by
  have hcs : cs.size = n * 2 := by rw [← Array.length_toList, hc, List.length_map, hz]
  refine ⟨hz, ?_, hi⟩
  rw [← hc]
  exact World.ownsRow_lit w cs n hb (by simp only [maxLen]; omega) hcs
theorem small64 {zs : List Int} (h : (zs.all fun z => decide (0 ≤ z ∧ z ≤ 100)) = true) : ∀ z ∈ zs, I64 z := by
  intro z hz
  have := List.all_eq_true.1 h z hz
  simp at this
  unfold I64; omega
def shN0 : List Int := [0, 0, 8, 0, 8, 8, 0, 8, 4, 4]
def shL0 : List Int := [0, 1, 1, 2, 2, 3, 0, 3, 0, 4, 1, 4, 2, 4, 3, 4]
def shN1 : List Int := [0, 0, 12, 0, 4, 12, 4, 3, 7, 3, 5, 6]
def shL1 : List Int := [0, 1, 1, 2, 0, 2, 3, 4, 4, 5, 3, 5, 0, 3]
def shN2 : List Int := [0, 0, 4, 0, 8, 0, 12, 0, 0, 5, 4, 5, 8, 5, 12, 5, 0, 9, 4, 9, 8, 9, 12, 9]
def shL2 : List Int := [0, 1, 1, 2, 2, 3, 4, 5, 5, 6, 6, 7, 8, 9, 9, 10, 10, 11, 0, 4, 1, 5, 2, 6, 3, 7, 4, 8, 5, 9, 6, 10, 7, 11]
def shN3 : List Int := [6, 6, 6, 0, 12, 4, 10, 11, 2, 11, 0, 4]
def shL3 : List Int := [0, 1, 0, 2, 0, 3, 0, 4, 0, 5, 1, 2, 2, 3, 3, 4, 4, 5, 1, 5]
def shN4 : List Int := [0, 0, 3, 0, 3, 3, 0, 3, 6, 1, 9, 1, 9, 5, 6, 5]
def shL4 : List Int := [0, 1, 1, 2, 2, 3, 0, 3, 4, 5, 5, 6, 6, 7, 4, 7]

attribute [local go_sem ↓] Go.wp_at_zero Go.wp_at_succ
attribute [local go_sem, local simp] Go.World.cell?_alloc_some Go.World.frozen?_alloc_past
theorem lit0 (w : World) (base : Nat) (hb : base ≤ w.heap.size) : OwnWn base ((w.alloc (.cells #[.int .i64 0, .int .i64 0, .int .i64 8, .int .i64 0, .int .i64 8, .int .i64 8, .int .i64 0, .int .i64 8, .int .i64 4, .int .i64 4] 38)).alloc (.cells #[.int .i64 0, .int .i64 1, .int .i64 1, .int .i64 2, .int .i64 2, .int .i64 3, .int .i64 0, .int .i64 3, .int .i64 0, .int .i64 4, .int .i64 1, .int .i64 4, .int .i64 2, .int .i64 4, .int .i64 3, .int .i64 4] 71)) (some ⟨w.heap.size, 0, none⟩) 5 5 shN0 (some ⟨w.heap.size + 1, 0, none⟩) 8 8 shL0 :=
  ⟨Nat.le_refl _, by omega, Nat.le_refl _, by omega, (mineS_lit w 38 _ shN0 5 base hb (by omega) rfl rfl (small64 rfl)).alloc _, by
    have := mineS_lit (w.alloc (.cells #[.int .i64 0, .int .i64 0, .int .i64 8, .int .i64 0, .int .i64 8, .int .i64 8, .int .i64 0, .int .i64 8, .int .i64 4, .int .i64 4] 38)) 71 #[.int .i64 0, .int .i64 1, .int .i64 1, .int .i64 2, .int .i64 2, .int .i64 3, .int .i64 0, .int .i64 3, .int .i64 0, .int .i64 4, .int .i64 1, .int .i64 4, .int .i64 2, .int .i64 4, .int .i64 3, .int .i64 4] shL0 8 base (by rw [World.size_alloc]; omega) (by omega) rfl rfl (small64 rfl)
    rwa [World.size_alloc] at this⟩
theorem lit1 (w : World) (base : Nat) (hb : base ≤ w.heap.size) : OwnWn base ((w.alloc (.cells #[.int .i64 0, .int .i64 0, .int .i64 12, .int .i64 0, .int .i64 4, .int .i64 12, .int .i64 4, .int .i64 3, .int .i64 7, .int .i64 3, .int .i64 5, .int .i64 6] 38)).alloc (.cells #[.int .i64 0, .int .i64 1, .int .i64 1, .int .i64 2, .int .i64 0, .int .i64 2, .int .i64 3, .int .i64 4, .int .i64 4, .int .i64 5, .int .i64 3, .int .i64 5, .int .i64 0, .int .i64 3] 71)) (some ⟨w.heap.size, 0, none⟩) 6 6 shN1 (some ⟨w.heap.size + 1, 0, none⟩) 7 7 shL1 :=
  ⟨Nat.le_refl _, by omega, Nat.le_refl _, by omega, (mineS_lit w 38 _ shN1 6 base hb (by omega) rfl rfl (small64 rfl)).alloc _, by
    have := mineS_lit (w.alloc (.cells #[.int .i64 0, .int .i64 0, .int .i64 12, .int .i64 0, .int .i64 4, .int .i64 12, .int .i64 4, .int .i64 3, .int .i64 7, .int .i64 3, .int .i64 5, .int .i64 6] 38)) 71 #[.int .i64 0, .int .i64 1, .int .i64 1, .int .i64 2, .int .i64 0, .int .i64 2, .int .i64 3, .int .i64 4, .int .i64 4, .int .i64 5, .int .i64 3, .int .i64 5, .int .i64 0, .int .i64 3] shL1 7 base (by rw [World.size_alloc]; omega) (by omega) rfl rfl (small64 rfl)
    rwa [World.size_alloc] at this⟩
theorem lit2 (w : World) (base : Nat) (hb : base ≤ w.heap.size) : OwnWn base ((w.alloc (.cells #[.int .i64 0, .int .i64 0, .int .i64 4, .int .i64 0, .int .i64 8, .int .i64 0, .int .i64 12, .int .i64 0, .int .i64 0, .int .i64 5, .int .i64 4, .int .i64 5, .int .i64 8, .int .i64 5, .int .i64 12, .int .i64 5, .int .i64 0, .int .i64 9, .int .i64 4, .int .i64 9, .int .i64 8, .int .i64 9, .int .i64 12, .int .i64 9] 38)).alloc (.cells #[.int .i64 0, .int .i64 1, .int .i64 1, .int .i64 2, .int .i64 2, .int .i64 3, .int .i64 4, .int .i64 5, .int .i64 5, .int .i64 6, .int .i64 6, .int .i64 7, .int .i64 8, .int .i64 9, .int .i64 9, .int .i64 10, .int .i64 10, .int .i64 11, .int .i64 0, .int .i64 4, .int .i64 1, .int .i64 5, .int .i64 2, .int .i64 6, .int .i64 3, .int .i64 7, .int .i64 4, .int .i64 8, .int .i64 5, .int .i64 9, .int .i64 6, .int .i64 10, .int .i64 7, .int .i64 11] 71)) (some ⟨w.heap.size, 0, none⟩) 12 12 shN2 (some ⟨w.heap.size + 1, 0, none⟩) 17 17 shL2 :=
  ⟨Nat.le_refl _, by omega, Nat.le_refl _, by omega, (mineS_lit w 38 _ shN2 12 base hb (by omega) rfl rfl (small64 rfl)).alloc _, by
    have := mineS_lit (w.alloc (.cells #[.int .i64 0, .int .i64 0, .int .i64 4, .int .i64 0, .int .i64 8, .int .i64 0, .int .i64 12, .int .i64 0, .int .i64 0, .int .i64 5, .int .i64 4, .int .i64 5, .int .i64 8, .int .i64 5, .int .i64 12, .int .i64 5, .int .i64 0, .int .i64 9, .int .i64 4, .int .i64 9, .int .i64 8, .int .i64 9, .int .i64 12, .int .i64 9] 38)) 71 #[.int .i64 0, .int .i64 1, .int .i64 1, .int .i64 2, .int .i64 2, .int .i64 3, .int .i64 4, .int .i64 5, .int .i64 5, .int .i64 6, .int .i64 6, .int .i64 7, .int .i64 8, .int .i64 9, .int .i64 9, .int .i64 10, .int .i64 10, .int .i64 11, .int .i64 0, .int .i64 4, .int .i64 1, .int .i64 5, .int .i64 2, .int .i64 6, .int .i64 3, .int .i64 7, .int .i64 4, .int .i64 8, .int .i64 5, .int .i64 9, .int .i64 6, .int .i64 10, .int .i64 7, .int .i64 11] shL2 17 base (by rw [World.size_alloc]; omega) (by omega) rfl rfl (small64 rfl)
    rwa [World.size_alloc] at this⟩
theorem lit3 (w : World) (base : Nat) (hb : base ≤ w.heap.size) : OwnWn base ((w.alloc (.cells #[.int .i64 6, .int .i64 6, .int .i64 6, .int .i64 0, .int .i64 12, .int .i64 4, .int .i64 10, .int .i64 11, .int .i64 2, .int .i64 11, .int .i64 0, .int .i64 4] 38)).alloc (.cells #[.int .i64 0, .int .i64 1, .int .i64 0, .int .i64 2, .int .i64 0, .int .i64 3, .int .i64 0, .int .i64 4, .int .i64 0, .int .i64 5, .int .i64 1, .int .i64 2, .int .i64 2, .int .i64 3, .int .i64 3, .int .i64 4, .int .i64 4, .int .i64 5, .int .i64 1, .int .i64 5] 71)) (some ⟨w.heap.size, 0, none⟩) 6 6 shN3 (some ⟨w.heap.size + 1, 0, none⟩) 10 10 shL3 :=
  ⟨Nat.le_refl _, by omega, Nat.le_refl _, by omega, (mineS_lit w 38 _ shN3 6 base hb (by omega) rfl rfl (small64 rfl)).alloc _, by
    have := mineS_lit (w.alloc (.cells #[.int .i64 6, .int .i64 6, .int .i64 6, .int .i64 0, .int .i64 12, .int .i64 4, .int .i64 10, .int .i64 11, .int .i64 2, .int .i64 11, .int .i64 0, .int .i64 4] 38)) 71 #[.int .i64 0, .int .i64 1, .int .i64 0, .int .i64 2, .int .i64 0, .int .i64 3, .int .i64 0, .int .i64 4, .int .i64 0, .int .i64 5, .int .i64 1, .int .i64 2, .int .i64 2, .int .i64 3, .int .i64 3, .int .i64 4, .int .i64 4, .int .i64 5, .int .i64 1, .int .i64 5] shL3 10 base (by rw [World.size_alloc]; omega) (by omega) rfl rfl (small64 rfl)
    rwa [World.size_alloc] at this⟩
theorem lit4 (w : World) (base : Nat) (hb : base ≤ w.heap.size) : OwnWn base ((w.alloc (.cells #[.int .i64 0, .int .i64 0, .int .i64 3, .int .i64 0, .int .i64 3, .int .i64 3, .int .i64 0, .int .i64 3, .int .i64 6, .int .i64 1, .int .i64 9, .int .i64 1, .int .i64 9, .int .i64 5, .int .i64 6, .int .i64 5] 38)).alloc (.cells #[.int .i64 0, .int .i64 1, .int .i64 1, .int .i64 2, .int .i64 2, .int .i64 3, .int .i64 0, .int .i64 3, .int .i64 4, .int .i64 5, .int .i64 5, .int .i64 6, .int .i64 6, .int .i64 7, .int .i64 4, .int .i64 7] 71)) (some ⟨w.heap.size, 0, none⟩) 8 8 shN4 (some ⟨w.heap.size + 1, 0, none⟩) 8 8 shL4 :=
  ⟨Nat.le_refl _, by omega, Nat.le_refl _, by omega, (mineS_lit w 38 _ shN4 8 base hb (by omega) rfl rfl (small64 rfl)).alloc _, by
    have := mineS_lit (w.alloc (.cells #[.int .i64 0, .int .i64 0, .int .i64 3, .int .i64 0, .int .i64 3, .int .i64 3, .int .i64 0, .int .i64 3, .int .i64 6, .int .i64 1, .int .i64 9, .int .i64 1, .int .i64 9, .int .i64 5, .int .i64 6, .int .i64 5] 38)) 71 #[.int .i64 0, .int .i64 1, .int .i64 1, .int .i64 2, .int .i64 2, .int .i64 3, .int .i64 0, .int .i64 3, .int .i64 4, .int .i64 5, .int .i64 5, .int .i64 6, .int .i64 6, .int .i64 7, .int .i64 4, .int .i64 7] shL4 8 base (by rw [World.size_alloc]; omega) (by omega) rfl rfl (small64 rfl)
    rwa [World.size_alloc] at this⟩
set_option maxRecDepth 100000 in
set_option maxHeartbeats 4000000 in
theorem SampleWindow_any (w : World) : Calls Tryz.prog 51 #[] w (PostWn w 5 shN0 8 shL0) := by
  go_enter Tryz.func51, Tryz.ntmps51
  go_wp2
  have hl := lit0 (w.alloc (.cells #[.slice (some ⟨w.heap.size + 1, 0, none⟩) 5 5, .slice (some ⟨w.heap.size + 1 + 1, 0, none⟩) 8 8] 27)) w.heap.size (by rw [World.size_alloc]; omega)
  rw [World.size_alloc] at hl
  exact bodyPost_ret (v := .agg #[.slice (some ⟨w.heap.size + 1, 0, none⟩) 5 5, .slice (some ⟨w.heap.size + 1 + 1, 0, none⟩) 8 8]) (by simp [results, Tryz.results51, go_sem]) rfl ⟨_, 5, _, 8, rfl, hl, ((Ext.refl w).alloc _).alloc _ |>.alloc _⟩
set_option maxRecDepth 100000 in
set_option maxHeartbeats 4000000 in
theorem l04Shape_0 (w : World) : Calls Tryz.prog 32 #[.int .i64 0] w (PostWn w 5 shN0 8 shL0) := by
  go_enter Tryz.func32, Tryz.ntmps32
  go_wp2_with fail
  refine (SampleWindow_any _).mono ?_
  rintro e w1 ⟨A, c, B, d, rfl, ho, x⟩
  have q0 := x.cell (a := ⟨w.heap.size, 0, none⟩) (u := .slice none 0 0) (by simp [go_sem])
  have q1 := x.cell (a := ⟨w.heap.size, 1, none⟩) (u := .slice none 0 0) (by simp [go_sem])
  have f0 := x.frozen (a := ⟨w.heap.size, 0, none⟩) (u := .slice none 0 0) (by simp [go_sem]) (by simp [go_sem])
  have f1 := x.frozen (a := ⟨w.heap.size, 1, none⟩) (u := .slice none 0 0) (by simp [go_sem]) (by simp [go_sem])
  rw [World.size_alloc] at ho
  have X := ((Ext.refl w).alloc _).trans x
  clear x
  go_wp2
  refine bodyPost_ret (v := .agg #[.slice A 5 c, .slice B 8 d]) (by simp [results, Tryz.results32, go_sem, q0, q1]) rfl ⟨A, c, B, d, rfl, ?_, ?_⟩
  · exact (((ho.far (by simp) _).far (by simp) _).more (by omega))
  · exact (X.setCell (by simp) _).setCell (by simp) _
set_option maxRecDepth 100000 in
set_option maxHeartbeats 4000000 in
theorem l04Shape_1 (w : World) : Calls Tryz.prog 32 #[.int .i64 1] w (PostWn w 6 shN1 7 shL1) := by
  go_enter Tryz.func32, Tryz.ntmps32
  go_wp2
  have hl := lit1 (w.alloc (.cells #[.slice (some ⟨w.heap.size + 1, 0, none⟩) 6 6, .slice (some ⟨w.heap.size + 1 + 1, 0, none⟩) 7 7] 27)) w.heap.size (by rw [World.size_alloc]; omega)
  rw [World.size_alloc] at hl
  exact bodyPost_ret (v := .agg #[.slice (some ⟨w.heap.size + 1, 0, none⟩) 6 6, .slice (some ⟨w.heap.size + 1 + 1, 0, none⟩) 7 7]) (by simp [results, Tryz.results32, go_sem]) rfl ⟨_, 6, _, 7, rfl, hl, ((Ext.refl w).alloc _).alloc _ |>.alloc _⟩
set_option maxRecDepth 100000 in
set_option maxHeartbeats 4000000 in
theorem l04Shape_2 (w : World) : Calls Tryz.prog 32 #[.int .i64 2] w (PostWn w 12 shN2 17 shL2) := by
  go_enter Tryz.func32, Tryz.ntmps32
  go_wp2
  have hl := lit2 (w.alloc (.cells #[.slice (some ⟨w.heap.size + 1, 0, none⟩) 12 12, .slice (some ⟨w.heap.size + 1 + 1, 0, none⟩) 17 17] 27)) w.heap.size (by rw [World.size_alloc]; omega)
  rw [World.size_alloc] at hl
  exact bodyPost_ret (v := .agg #[.slice (some ⟨w.heap.size + 1, 0, none⟩) 12 12, .slice (some ⟨w.heap.size + 1 + 1, 0, none⟩) 17 17]) (by simp [results, Tryz.results32, go_sem]) rfl ⟨_, 12, _, 17, rfl, hl, ((Ext.refl w).alloc _).alloc _ |>.alloc _⟩
set_option maxRecDepth 100000 in
set_option maxHeartbeats 4000000 in
theorem l04Shape_3 (w : World) : Calls Tryz.prog 32 #[.int .i64 3] w (PostWn w 6 shN3 10 shL3) := by
  go_enter Tryz.func32, Tryz.ntmps32
  go_wp2
  have hl := lit3 (w.alloc (.cells #[.slice (some ⟨w.heap.size + 1, 0, none⟩) 6 6, .slice (some ⟨w.heap.size + 1 + 1, 0, none⟩) 10 10] 27)) w.heap.size (by rw [World.size_alloc]; omega)
  rw [World.size_alloc] at hl
  exact bodyPost_ret (v := .agg #[.slice (some ⟨w.heap.size + 1, 0, none⟩) 6 6, .slice (some ⟨w.heap.size + 1 + 1, 0, none⟩) 10 10]) (by simp [results, Tryz.results32, go_sem]) rfl ⟨_, 6, _, 10, rfl, hl, ((Ext.refl w).alloc _).alloc _ |>.alloc _⟩
set_option maxRecDepth 100000 in
set_option maxHeartbeats 4000000 in
theorem l04Shape_4 (w : World) : Calls Tryz.prog 32 #[.int .i64 4] w (PostWn w 8 shN4 8 shL4) := by
  go_enter Tryz.func32, Tryz.ntmps32
  go_wp2
  have hl := lit4 (w.alloc (.cells #[.slice (some ⟨w.heap.size + 1, 0, none⟩) 8 8, .slice (some ⟨w.heap.size + 1 + 1, 0, none⟩) 8 8] 27)) w.heap.size (by rw [World.size_alloc]; omega)
  rw [World.size_alloc] at hl
  exact bodyPost_ret (v := .agg #[.slice (some ⟨w.heap.size + 1, 0, none⟩) 8 8, .slice (some ⟨w.heap.size + 1 + 1, 0, none⟩) 8 8]) (by simp [results, Tryz.results32, go_sem]) rfl ⟨_, 8, _, 8, rfl, hl, ((Ext.refl w).alloc _).alloc _ |>.alloc _⟩
def shn (k : Int) : Nat := if k = 0 then 5 else if k = 1 then 6 else if k = 2 then 12 else if k = 3 then 6 else 8
def shm (k : Int) : Nat := if k = 0 then 8 else if k = 1 then 7 else if k = 2 then 17 else if k = 3 then 10 else 8
def shN (k : Int) : List Int := if k = 0 then shN0 else if k = 1 then shN1 else if k = 2 then shN2 else if k = 3 then shN3 else shN4
def shL (k : Int) : List Int := if k = 0 then shL0 else if k = 1 then shL1 else if k = 2 then shL2 else if k = 3 then shL3 else shL4
theorem l04Shape_any (k : Int) (h : 0 ≤ k ∧ k ≤ 4) (w : World) : Calls Tryz.prog 32 #[.int .i64 k] w (PostWn w (shn k) (shN k) (shm k) (shL k)) := by
  obtain rfl | rfl | rfl | rfl | rfl : k = 0 ∨ k = 1 ∨ k = 2 ∨ k = 3 ∨ k = 4 := by omega
  · exact l04Shape_0 w
  · exact l04Shape_1 w
  · exact l04Shape_2 w
  · exact l04Shape_3 w
  · exact l04Shape_4 w

end Go.Proofs.YtgmhmlhdiklaaaaGreatDoor
