/-
  A window drawn out of a code. No conditions.
-/
import Derived.Deep.DeepCutAuto
import Derived.Deep.CutRange
import Derived.Deep.DrawnRows
import Derived.RowKit3
import Derived.Laws.OwnMore
import Derived.Laws.Closers25b
import Derived.Maps.AppendAt
import Derived.Laws.AppendOwnNone
import Derived.Deep.RegionLaw
import Derived.Deep.RegionHeld3
import Derived.Test.YtgmhmlhdiklaaaaWdG
namespace Go.Proofs.Ytgmhmlhdiklaaaa
open Go.RowKit
set_option linter.unusedVariables false
set_option linter.unusedSimpArgs false

/-- A call hands back a valid window of its own. -/
def PostVw (w : World) (e : Ending) (w' : World) : Prop :=
  ∃ A n c zs B m d ys, e = .returned (.agg #[.slice A n c, .slice B m d]) ∧ OwnWn w.heap.size w' A n c zs B m d ys ∧ winB n (FW zs) m (FW ys) = true ∧ Ext w w'

attribute [local go_sem ↓] Go.wp_at_zero Go.wp_at_succ
attribute [local go_sem, local simp] Go.World.cell?_alloc_some Go.World.frozen?_alloc_past
set_option maxRecDepth 100000 in
set_option maxHeartbeats 4000000 in
theorem DrawWindow_any (A : Option Addr) (n c : Nat) (g : Nat → Int) (hnc : n ≤ c) (hcm : c ≤ 9223372036854775807) (hn : n ≤ 1048576) (w : World) (hB : BRecs w A n g) :
    Calls Try.prog 9 #[.slice A n c] w (PostVw w) := by
  have R0 : BoxW (w.alloc (.cells #[.slice none 0 0, .slice none 0 0] 27)) w.heap.size (.slice none 0 0) (.slice none 0 0) := heap_alloc_new _ _
  have X0 : Ext w (w.alloc (.cells #[.slice none 0 0, .slice none 0 0] 27)) := (Ext.refl w).alloc _
  have hs0 : (w.alloc (.cells #[.slice none 0 0, .slice none 0 0] 27)).heap.size = w.heap.size + 1 := by rw [World.size_alloc]
  go_enter Try.func9, Try.ntmps9
  go_wp2_with fail
  generalize w.alloc (.cells #[.slice none 0 0, .slice none 0 0] 27) = w0 at *
  refine (l01New_any A n c g hnc hcm hn w0 (hB.ext X0)).mono ?_
  rintro e w1 ⟨q, rfl, hq, C1, x1⟩
  have X1 := X0.trans x1
  have R1 := R0.ext x1
  have hqw : w.heap.size ≤ q := by omega
  have hqn : (some q : Option Nat) ≠ some w.heap.size := fun e => by injection e with e; omega
  clear R0 x1
  go_wp2_with fail
  refine (l04Window_any w A n c g hnc hcm hB q hqw w1 X1 C1).mono ?_
  rintro e w2 ⟨A2, n2, c2, zs, B2, m2, d2, ys, rfl, ho, hw, C2, g2⟩
  have X2 : Ext w w2 := X1.grown g2 (fun k e => by injection e with e; omega)
  have R2 := R1.kept g2 hqn
  have r0 := R2.c0
  have r1 := R2.c1
  have e0 := R2.f0
  have e1 := R2.f1
  have HE := Lib.hid (And.intro (ho.more (base' := w.heap.size) (by omega)) (And.intro R2 X2))
  clear ho C2 g2 X1 R1 C1 R2 X2
  go_wp2
  obtain ⟨ho, R2, X2⟩ := HE.out
  refine bodyPost_ret (v := .agg #[.slice A2 n2 c2, .slice B2 m2 d2]) (by simp [results, Try.results9, go_sem, r0, r1]) rfl ⟨A2, n2, c2, zs, B2, m2, d2, ys, rfl, ?_, hw, ?_⟩
  · exact ho.setBox2 R2 _ _
  · exact (X2.setCell (p := ⟨w.heap.size, 0, none⟩) (Nat.le_refl _) _).setCell (p := ⟨w.heap.size, 1, none⟩) (Nat.le_refl _) _

end Go.Proofs.Ytgmhmlhdiklaaaa
