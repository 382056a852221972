/-
  A sun drawn out of a code. No conditions.
-/
import Derived.Deep.DeepCutAuto
import Derived.Deep.CutRange
import Derived.Deep.DrawnRows
import Derived.RowKit3
import Derived.Laws.OwnMore
import Derived.Laws.Closers25b
import Derived.Maps.AppendAt
import Derived.Laws.AppendOwnNone
import Derived.Deep.RegionLaw
import Derived.Deep.RegionHeld3
import Derived.Test.YtgmhmlhdiklaaaaWdF
namespace Go.Proofs.Ytgmhmlhdiklaaaa
open Go.RowKit
set_option linter.unusedVariables false
set_option linter.unusedSimpArgs false

/-- A call hands back a drawn sun; the cursor goes on. -/
def PostS3 (w : World) (q : Nat) (A : Option Addr) (n c : Nat) (e : Ending) (w' : World) : Prop :=
  ∃ x y u : Int, e = .returned (.agg #[.int .i64 x, .int .i64 y, .int .i64 u]) ∧ (-20 ≤ x ∧ x ≤ 20) ∧ (1 ≤ y ∧ y ≤ 30) ∧ (1 ≤ u ∧ u ≤ 20) ∧ Cur w' q A n c ∧ w.grownBy w' (some q)

attribute [local go_sem ↓] Go.wp_at_zero Go.wp_at_succ
attribute [local go_sem, local simp] Go.World.cell?_alloc_some Go.World.frozen?_alloc_past
set_option maxRecDepth 100000 in
set_option maxHeartbeats 4000000 in
theorem l25Sun_any (w0 : World) (A0 : Option Addr) (N C0 : Nat) (g : Nat → Int) (hnc : N ≤ C0) (hcm : C0 ≤ 9223372036854775807) (hB : BRecs w0 A0 N g) (q : Nat) (hq : w0.heap.size ≤ q) (w : World) (X : Ext w0 w) (C : Cur w q A0 N C0) :
    Calls Try.prog 55 #[.pointer (some ⟨q, 0, none⟩)] w (PostS3 w q A0 N C0) := by
  have hql := C.lt
  have C0' := C.ext ((Ext.refl w).alloc (.cells #[.int .i64 0, .int .i64 0, .int .i64 0] 42))
  have X0 := X.alloc (.cells #[.int .i64 0, .int .i64 0, .int .i64 0] 42)
  have G0 : w.grownBy (w.alloc (.cells #[.int .i64 0, .int .i64 0, .int .i64 0] 42)) (some q) := grownBy_alloc (World.grownBy.refl w _) _
  go_enter Try.func55, Try.ntmps55
  go_wp2_with fail
  refine (l01Below_any w0 A0 N C0 g hnc hcm hB q hq _ X0 C0' 41 (by omega)).mono ?_
  rintro e w1 ⟨x, rfl, hx, C1, g1⟩
  have X1 : Ext w0 w1 := X0.grown g1 fun k e => by injection e with e; omega
  go_wp2_with fail
  refine (l01Below_any w0 A0 N C0 g hnc hcm hB q hq _ X1 C1 30 (by omega)).mono ?_
  rintro e w2 ⟨y, rfl, hy, C2, g2⟩
  have X2 : Ext w0 w2 := X1.grown g2 fun k e => by injection e with e; omega
  go_wp2_with fail
  refine (l01Below_any w0 A0 N C0 g hnc hcm hB q hq _ X2 C2 20 (by omega)).mono ?_
  rintro e w3 ⟨u, rfl, hu, C3, g3⟩
  have hx0 := hx.1
  have hx1 := hx.2.1 (by omega)
  have hy0 := hy.1
  have hy1 := hy.2.1 (by omega)
  have hu0 := hu.1
  have hu1 := hu.2.1 (by omega)
  have hne : (some q : Option Nat) ≠ some w.heap.size := fun e => by injection e with e; omega
  have r0 : w3.cell? ⟨w.heap.size, 0, none⟩ = some (.int .i64 0) := cell_grown g3 hne (cell_grown g2 hne (cell_grown g1 hne (by simp [go_sem])))
  have f0 : w3.frozen? ⟨w.heap.size, 0, none⟩ = false := frozen_grown g3 hne (u := .int .i64 0) (cell_grown g2 hne (cell_grown g1 hne (by simp [go_sem]))) (frozen_grown g2 hne (u := .int .i64 0) (cell_grown g1 hne (by simp [go_sem])) (frozen_grown g1 hne (u := .int .i64 0) (by simp [go_sem]) (by simp [go_sem])))
  have r1 : w3.cell? ⟨w.heap.size, 1, none⟩ = some (.int .i64 0) := cell_grown g3 hne (cell_grown g2 hne (cell_grown g1 hne (by simp [go_sem])))
  have f1 : w3.frozen? ⟨w.heap.size, 1, none⟩ = false := frozen_grown g3 hne (u := .int .i64 0) (cell_grown g2 hne (cell_grown g1 hne (by simp [go_sem]))) (frozen_grown g2 hne (u := .int .i64 0) (cell_grown g1 hne (by simp [go_sem])) (frozen_grown g1 hne (u := .int .i64 0) (by simp [go_sem]) (by simp [go_sem])))
  have r2 : w3.cell? ⟨w.heap.size, 2, none⟩ = some (.int .i64 0) := cell_grown g3 hne (cell_grown g2 hne (cell_grown g1 hne (by simp [go_sem])))
  have f2 : w3.frozen? ⟨w.heap.size, 2, none⟩ = false := frozen_grown g3 hne (u := .int .i64 0) (cell_grown g2 hne (cell_grown g1 hne (by simp [go_sem]))) (frozen_grown g2 hne (u := .int .i64 0) (cell_grown g1 hne (by simp [go_sem])) (frozen_grown g1 hne (u := .int .i64 0) (by simp [go_sem]) (by simp [go_sem])))
  have G3 := Lib.hid (((G0.trans g1).trans g2).trans g3)
  have HC3 := Lib.hid C3
  clear g1 g2 g3 C1 C0' X0 C X X1 C2 X2 C3 hx hy hu
  go_wp2
  refine bodyPost_ret (v := .agg #[.int .i64 (x - 20), .int .i64 (1 + y), .int .i64 (1 + u)]) (by simp [results, Try.results55, go_sem, r0, r1, r2]) rfl ⟨x - 20, 1 + y, 1 + u, rfl, by omega, by omega, by omega, ?_, ?_⟩
  · exact (HC3.out.kept (row := some w.heap.size) (grownBy_setC (grownBy_setC (grownBy_setC (World.grownBy.refl w3 _) 0 _) 1 _) 2 _) (fun e => hne e.symm))
  · exact grownBy_new (grownBy_new (grownBy_new G3.out (Nat.le_refl _) 0 _) (Nat.le_refl _) 1 _) (Nat.le_refl _) 2 _
set_option maxRecDepth 100000 in
set_option maxHeartbeats 4000000 in
theorem DrawSun_any (A : Option Addr) (n c : Nat) (g : Nat → Int) (hnc : n ≤ c) (hcm : c ≤ 9223372036854775807) (hn : n ≤ 1048576) (w : World) (hB : BRecs w A n g) :
    Calls Try.prog 18 #[.slice A n c] w fun e w' => ∃ x y u : Int, e = .returned (.agg #[.int .i64 x, .int .i64 y, .int .i64 u]) ∧ (-20 ≤ x ∧ x ≤ 20) ∧ (1 ≤ y ∧ y ≤ 30) ∧ (1 ≤ u ∧ u ≤ 20) ∧ Ext w w' := by
  have X0 : Ext w (w.alloc (.cells #[.int .i64 0, .int .i64 0, .int .i64 0] 42)) := (Ext.refl w).alloc _
  have r0 : (w.alloc (.cells #[.int .i64 0, .int .i64 0, .int .i64 0] 42)).cell? ⟨w.heap.size, 0, none⟩ = some (.int .i64 0) := by simp [go_sem]
  have r1 : (w.alloc (.cells #[.int .i64 0, .int .i64 0, .int .i64 0] 42)).cell? ⟨w.heap.size, 1, none⟩ = some (.int .i64 0) := by simp [go_sem]
  have r2 : (w.alloc (.cells #[.int .i64 0, .int .i64 0, .int .i64 0] 42)).cell? ⟨w.heap.size, 2, none⟩ = some (.int .i64 0) := by simp [go_sem]
  have f0 : (w.alloc (.cells #[.int .i64 0, .int .i64 0, .int .i64 0] 42)).frozen? ⟨w.heap.size, 0, none⟩ = false := by simp [go_sem]
  have f1 : (w.alloc (.cells #[.int .i64 0, .int .i64 0, .int .i64 0] 42)).frozen? ⟨w.heap.size, 1, none⟩ = false := by simp [go_sem]
  have f2 : (w.alloc (.cells #[.int .i64 0, .int .i64 0, .int .i64 0] 42)).frozen? ⟨w.heap.size, 2, none⟩ = false := by simp [go_sem]
  have hs0 : (w.alloc (.cells #[.int .i64 0, .int .i64 0, .int .i64 0] 42)).heap.size = w.heap.size + 1 := by rw [World.size_alloc]
  go_enter Try.func18, Try.ntmps18
  go_wp2_with fail
  generalize w.alloc (.cells #[.int .i64 0, .int .i64 0, .int .i64 0] 42) = w0 at *
  refine (l01New_any A n c g hnc hcm hn w0 (hB.ext X0)).mono ?_
  rintro e w1 ⟨q, rfl, hq, C1, x1⟩
  have X1 := X0.trans x1
  have hqw : w.heap.size ≤ q := by omega
  have hqn : (some q : Option Nat) ≠ some w.heap.size := fun e => by injection e with e; omega
  replace f0 := x1.frozen r0 f0
  replace f1 := x1.frozen r1 f1
  replace f2 := x1.frozen r2 f2
  replace r0 := x1.cell r0
  replace r1 := x1.cell r1
  replace r2 := x1.cell r2
  go_wp2_with fail
  refine (l25Sun_any w A n c g hnc hcm hB q hqw w1 X1 C1).mono ?_
  rintro e w2 ⟨x, y, u, rfl, hx, hy, hu, C2, g2⟩
  have X2 : Ext w w2 := X1.grown g2 (fun k e => by injection e with e; omega)
  replace f0 := frozen_grown g2 hqn r0 f0
  replace f1 := frozen_grown g2 hqn r1 f1
  replace f2 := frozen_grown g2 hqn r2 f2
  replace r0 := cell_grown g2 hqn r0
  replace r1 := cell_grown g2 hqn r1
  replace r2 := cell_grown g2 hqn r2
  have HX := Lib.hid X2
  clear C2 g2 X1 C1 X2 x1 X0
  go_wp2
  refine bodyPost_ret (v := .agg #[.int .i64 x, .int .i64 y, .int .i64 u]) (by simp [results, Try.results18, go_sem, r0, r1, r2]) rfl ⟨x, y, u, rfl, hx, hy, hu, ?_⟩
  exact ((HX.out.setCell (p := ⟨w.heap.size, 0, none⟩) (Nat.le_refl _) _).setCell (p := ⟨w.heap.size, 1, none⟩) (Nat.le_refl _) _).setCell (p := ⟨w.heap.size, 2, none⟩) (Nat.le_refl _) _

end Go.Proofs.Ytgmhmlhdiklaaaa
