/-
  A box for a window; a coin and a node drawn. No conditions.
-/
import Derived.Deep.DeepCutAuto
import Derived.Deep.CutRange
import Derived.Deep.DrawnRows
import Derived.RowKit3
import Derived.Laws.OwnMore
import Derived.Laws.Closers25b
import Derived.Maps.AppendAt
import Derived.Laws.AppendOwnNone
import Derived.Deep.RegionLaw
import Derived.Deep.RegionHeld3
import Derived.Test.YtgmhmlhdiklaaaaGreatDoorWdE
namespace Go.Proofs.YtgmhmlhdiklaaaaGreatDoor
open Go.RowKit
set_option linter.unusedVariables false
set_option linter.unusedSimpArgs false

theorem grownBy_new {w wr : World} {r : Option Nat} (h : w.grownBy wr r) {k : Nat} (hk : w.heap.size ≤ k) (i : Nat) (u : Value) : w.grownBy (wr.setCell ⟨k, i, none⟩ u) r :=
  ⟨h.os, h.tape, h.output, by simpa [World.setCell] using h.size, fun j hj hne => (Below.heap_setCell _ _ u j (by intro e; first | (have e2 : j = k := e; omega) | (have e2 : k = j := e; omega))).trans (h.block j hj hne)⟩
theorem grownBy_alloc {w wr : World} {r : Option Nat} (h : w.grownBy wr r) (o : Obj) : w.grownBy (wr.alloc o) r :=
  ⟨h.os, h.tape, h.output, by rw [World.size_alloc]; have := h.size; omega, fun j hj hne => (heap_alloc_old _ _ (by have := h.size; omega)).trans (h.block j hj hne)⟩
/-- The block p is a box that holds a window. -/
def BoxW (w : World) (p : Nat) (u v : Value) : Prop := w.heap[p]? = some (.cells #[u, v] 27 (0, 0))
section
variable {w w' : World} {p : Nat} {u v : Value}
theorem BoxW.lt (h : BoxW w p u v) : p < w.heap.size := (Array.getElem?_eq_some_iff.1 h).1
theorem BoxW.kept {row : Option Nat} (h : BoxW w p u v) (hg : w.grownBy w' row) (hne : row ≠ some p) : BoxW w' p u v :=
  (hg.block p h.lt (fun e => hne e.symm)).trans h
theorem BoxW.ext (h : BoxW w p u v) (x : Ext w w') : BoxW w' p u v := h.kept (x.grownBy none) (by simp)
theorem BoxW.c0 (h : BoxW w p u v) : w.cell? ⟨p, 0, none⟩ = some u := by unfold BoxW at h; simp [World.cell?, h]
theorem BoxW.c1 (h : BoxW w p u v) : w.cell? ⟨p, 1, none⟩ = some v := by unfold BoxW at h; simp [World.cell?, h]
theorem BoxW.f0 (h : BoxW w p u v) : w.frozen? ⟨p, 0, none⟩ = false := by unfold BoxW at h; simp [World.frozen?, h]
theorem BoxW.f1 (h : BoxW w p u v) : w.frozen? ⟨p, 1, none⟩ = false := by unfold BoxW at h; simp [World.frozen?, h]
end
set_option maxHeartbeats 1000000 in
theorem l01Once_any (w0 : World) (A0 : Option Addr) (N C0 : Nat) (g : Nat → Int) (hnc : N ≤ C0) (hcm : C0 ≤ 9223372036854775807) (hB : BRecs w0 A0 N g) (q : Nat) (hq : w0.heap.size ≤ q) (w : World) (X : Ext w0 w) (C : Cur w q A0 N C0) (m : Int) (hm : m ≤ 256) :
    Calls Tryz.prog 46 #[.pointer (some ⟨q, 0, none⟩), .int .i64 m] w fun e w' => ∃ b, e = .returned (.bool b) ∧ Cur w' q A0 N C0 ∧ w.grownBy w' (some q) := by
  go_enter Tryz.func46, Tryz.ntmps46
  go_wp2_with fail
  refine (l01Below_any w0 A0 N C0 g hnc hcm hB q hq w X C m hm).mono ?_
  rintro e w1 ⟨z, rfl, hz, C1, g1⟩
  go_wp2
  go_ret
  exact ⟨_, rfl, C1, g1⟩
/-- A call hands back a drawn node; the cursor goes on. -/
def PostN (w : World) (q : Nat) (A : Option Addr) (n c : Nat) (e : Ending) (w' : World) : Prop :=
  ∃ x y : Int, e = .returned (.agg #[.int .i64 x, .int .i64 y]) ∧ (0 ≤ x ∧ x < 13) ∧ (0 ≤ y ∧ y < 13) ∧ Cur w' q A n c ∧ w.grownBy w' (some q)

attribute [local go_sem ↓] Go.wp_at_zero Go.wp_at_succ
attribute [local go_sem, local simp] Go.World.cell?_alloc_some Go.World.frozen?_alloc_past
set_option maxRecDepth 100000 in
set_option maxHeartbeats 4000000 in
theorem l02Node_any (w0 : World) (A0 : Option Addr) (N C0 : Nat) (g : Nat → Int) (hnc : N ≤ C0) (hcm : C0 ≤ 9223372036854775807) (hB : BRecs w0 A0 N g) (q : Nat) (hq : w0.heap.size ≤ q) (w : World) (X : Ext w0 w) (C : Cur w q A0 N C0) :
    Calls Tryz.prog 50 #[.pointer (some ⟨q, 0, none⟩)] w (PostN w q A0 N C0) := by
  have hql := C.lt
  have C0' := C.ext ((Ext.refl w).alloc (.cells #[.int .i64 0, .int .i64 0] 38))
  have X0 := X.alloc (.cells #[.int .i64 0, .int .i64 0] 38)
  have G0 : w.grownBy (w.alloc (.cells #[.int .i64 0, .int .i64 0] 38)) (some q) := grownBy_alloc (World.grownBy.refl w _) _
  go_enter Tryz.func50, Tryz.ntmps50
  go_wp2_with fail
  refine (l01Below_any w0 A0 N C0 g hnc hcm hB q hq _ X0 C0' 13 (by omega)).mono ?_
  rintro e w1 ⟨x, rfl, hx, C1, g1⟩
  have X1 : Ext w0 w1 := X0.grown g1 fun k e => by injection e with e; omega
  go_wp2_with fail
  refine (l01Below_any w0 A0 N C0 g hnc hcm hB q hq _ X1 C1 13 (by omega)).mono ?_
  rintro e w2 ⟨y, rfl, hy, C2, g2⟩
  have hx0 := hx.1
  have hx1 := hx.2.1 (by omega)
  have hy0 := hy.1
  have hy1 := hy.2.1 (by omega)
  have hne : (some q : Option Nat) ≠ some w.heap.size := fun e => by injection e with e; omega
  have r0 : w2.cell? ⟨w.heap.size, 0, none⟩ = some (.int .i64 0) := cell_grown g2 hne (cell_grown g1 hne (by simp [go_sem]))
  have r1 : w2.cell? ⟨w.heap.size, 1, none⟩ = some (.int .i64 0) := cell_grown g2 hne (cell_grown g1 hne (by simp [go_sem]))
  have f0 : w2.frozen? ⟨w.heap.size, 0, none⟩ = false := frozen_grown g2 hne (u := .int .i64 0) (cell_grown g1 hne (by simp [go_sem])) (frozen_grown g1 hne (u := .int .i64 0) (by simp [go_sem]) (by simp [go_sem]))
  have f1 : w2.frozen? ⟨w.heap.size, 1, none⟩ = false := frozen_grown g2 hne (u := .int .i64 0) (cell_grown g1 hne (by simp [go_sem])) (frozen_grown g1 hne (u := .int .i64 0) (by simp [go_sem]) (by simp [go_sem]))
  have G2 := Lib.hid ((G0.trans g1).trans g2)
  have HC2 := Lib.hid C2
  clear g1 g2 C1 C0' X0 C X X1 C2
  go_wp2
  refine bodyPost_ret (v := .agg #[.int .i64 x, .int .i64 y]) (by simp [results, Tryz.results50, go_sem, r0, r1]) rfl ⟨x, y, rfl, ⟨hx0, hx1⟩, ⟨hy0, hy1⟩, ?_, ?_⟩
  · exact (HC2.out.kept (row := some w.heap.size) (grownBy_setC (grownBy_setC (World.grownBy.refl w2 _) 0 _) 1 _) (fun e => hne e.symm))
  · exact grownBy_new (grownBy_new G2.out (Nat.le_refl _) 0 _) (Nat.le_refl _) 1 _

end Go.Proofs.YtgmhmlhdiklaaaaGreatDoor
