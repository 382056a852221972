/-
  A whole window drawn out of a code. No conditions.
-/
import Derived.Deep.DeepCutAuto
import Derived.Deep.CutRange
import Derived.Deep.DrawnRows
import Derived.RowKit3
import Derived.Laws.OwnMore
import Derived.Laws.Closers25b
import Derived.Maps.AppendAt
import Derived.Laws.AppendOwnNone
import Derived.Deep.RegionLaw
import Derived.Deep.RegionHeld3
import Derived.Test.YtgmhmlhdiklaaaaGreatDoorWdH
import Derived.Test.YtgmhmlhdiklaaaaGreatDoorWhoM
namespace Go.Proofs.YtgmhmlhdiklaaaaGreatDoor
open Go.RowKit
set_option linter.unusedVariables false
set_option linter.unusedSimpArgs false

/-- A call hands back a whole window of its own. -/
def PostHw (w : World) (e : Ending) (w' : World) : Prop :=
  ∃ A n c zs B m d ys, e = .returned (.agg #[.slice A n c, .slice B m d]) ∧ OwnWn w.heap.size w' A n c zs B m d ys ∧ wholeB n (FW zs) m (FW ys) = true ∧ Ext w w'
/-- The same; the cursor goes on. -/
def PostDh (w : World) (q : Nat) (A0 : Option Addr) (N C0 : Nat) (e : Ending) (w' : World) : Prop :=
  ∃ A n c zs B m d ys, e = .returned (.agg #[.slice A n c, .slice B m d]) ∧ OwnWn (q + 1) w' A n c zs B m d ys ∧ wholeB n (FW zs) m (FW ys) = true ∧ Cur w' q A0 N C0 ∧ w.grownBy w' (some q)
theorem shape_whole (k : Int) (h : 0 ≤ k ∧ k < 4) : wholeB (shn k) (FW (shN k)) (shm k) (FW (shL k)) = true := by
  obtain rfl | rfl | rfl | rfl : k = 0 ∨ k = 1 ∨ k = 2 ∨ k = 3 := by omega
  · decide +kernel
  · decide +kernel
  · decide +kernel
  · decide +kernel

attribute [local go_sem ↓] Go.wp_at_zero Go.wp_at_succ
attribute [local go_sem, local simp] Go.World.cell?_alloc_some Go.World.frozen?_alloc_past
set_option maxRecDepth 100000 in
set_option maxHeartbeats 4000000 in
theorem l07Whole_any (w0 : World) (A0 : Option Addr) (N C0 : Nat) (g : Nat → Int) (hnc : N ≤ C0) (hcm : C0 ≤ 9223372036854775807) (hB : BRecs w0 A0 N g) (q : Nat) (hq : w0.heap.size ≤ q) (w : World) (X : Ext w0 w) (C : Cur w q A0 N C0) :
    Calls Tryz.prog 14 #[.pointer (some ⟨q, 0, none⟩)] w (PostDh w q A0 N C0) := by
  have hql := C.lt
  have C1 := C.ext ((Ext.refl w).alloc (.cells #[.slice none 0 0, .slice none 0 0] 27))
  have G1 : w.grownBy (w.alloc (.cells #[.slice none 0 0, .slice none 0 0] 27)) (some q) := grownBy_alloc (World.grownBy.refl w _) _
  have R1 : BoxW (w.alloc (.cells #[.slice none 0 0, .slice none 0 0] 27)) w.heap.size (.slice none 0 0) (.slice none 0 0) := heap_alloc_new _ _
  have hqw : (some q : Option Nat) ≠ some w.heap.size := fun e => by injection e with e; omega
  have hqs : q ≠ w.heap.size := by omega
  have HB := Lib.hid (fun W (G : w.grownBy W (some q)) (C : Cur W q A0 N C0) (m : Int) (hm : m ≤ 256) => l01Below_any w0 A0 N C0 g hnc hcm hB q hq W (X.grown G (fun k e => by injection e with e; omega)) C m hm)
  have HW := Lib.hid (fun W (G : w.grownBy W (some q)) (C : Cur W q A0 N C0) => l04Window_any w0 A0 N C0 g hnc hcm hB q hq W (X.grown G (fun k e => by injection e with e; omega)) C)
  clear X C hB
  go_enter Tryz.func14, Tryz.ntmps14
  go_wp2
  go_loopw [3, 4] (fun i b wr => ∃ j : Nat, j ≤ 4 ∧ i = .int .i64 j ∧ BoxW wr w.heap.size (.slice none 0 0) (.slice none 0 0) ∧ Cur wr q A0 N C0 ∧ w.grownBy wr (some q)) (fun i _ _ => 4 - (intOf i).toNat)
  case atStart => exact ⟨0, by omega, rfl, R1, C1, G1⟩
  case round =>
    obtain ⟨j, hj, rfl, R, C, G⟩ := hrel
    clear R1 C1 G1
    by_cases hlt : j < 4
    · go_wp2_with fail
      refine (HW.out _ G C).mono ?_
      rintro e w2 ⟨A, n, c, zs, B, m, d, ys, rfl, ho, hw, C2, g2⟩
      have G2 := G.trans g2
      have R2 := R.kept g2 hqw
      clear G C R g2
      have y3 : Ext w2 (w2.alloc (.cells #[.slice A n c, .slice B m d] 27)) := (Ext.refl _).alloc _
      have D3 : BoxW (w2.alloc (.cells #[.slice A n c, .slice B m d] 27)) w2.heap.size (.slice A n c) (.slice B m d) := heap_alloc_new _ _
      have G3 := G2.trans (y3.grownBy _)
      have R3 := R2.ext y3
      have C3 := C2.ext y3
      have ho3 := ho.ext y3
      clear G2 R2 C2 ho y3
      go_wp2_with fail
      generalize w2.alloc (.cells #[.slice A n c, .slice B m d] 27) = w3 at *
      generalize w2.heap.size = p at *
      have HI := spec_IsWhole A n c (FW zs) B m d (FW ys) ho3.1 ho3.2.1 ho3.2.2.1 ho3.2.2.2.1 w3 ho3.recsP ho3.recsL
      cases hh : wholeB n (FW zs) m (FW ys)
      · rw [hh] at HI
        refine HI.mono ?_
        rintro e w4 ⟨rfl, x4⟩
        have HE := Lib.hid (And.intro (R3.ext x4) (And.intro (C3.ext x4) (G3.trans (x4.grownBy _))))
        clear R3 C3 G3 x4 ho3 D3
        go_wp2
        go_roundw
        case rel => exact ⟨j + 1, by omega, by go_num, HE.out⟩
        case measure => simp [intOf]; omega
      · rw [hh] at HI
        refine HI.mono ?_
        rintro e w4 ⟨rfl, x4⟩
        have D4 := D3.ext x4
        have R4 := R3.ext x4
        have k0 := D4.c0
        have k1 := D4.c1
        have r0 := R4.c0
        have r1 := R4.c1
        have e0 := R4.f0
        have e1 := R4.f1
        have HE := Lib.hid (And.intro (ho3.ext x4) (And.intro R4 (And.intro (C3.ext x4) (G3.trans (x4.grownBy _)))))
        clear R3 C3 G3 x4 ho3 D3 D4 R4
        go_wp2
        obtain ⟨ho, R, C, G⟩ := HE.out
        refine bodyPost_ret (v := .agg #[.slice A n c, .slice B m d]) (by simp [results, Tryz.results14, go_sem, r0, r1]) rfl ⟨A, n, c, zs, B, m, d, ys, rfl, ?_, hh, ?_, ?_⟩
        · exact ho.setBox2 R _ _
        · exact (C.setBox hqs 0 _).setBox hqs 1 _
        · exact grownBy_new (grownBy_new G (Nat.le_refl _) 0 _) (Nat.le_refl _) 1 _
    · obtain rfl : j = 4 := by omega
      go_wp2_with fail
      refine (HB.out _ G C 4 (by omega)).mono ?_
      rintro e w2 ⟨k4, rfl, hk4, C2, g2⟩
      have hk0 := hk4.1
      have hk1 := hk4.2.1 (by omega)
      have G2 := G.trans g2
      have R2 := R.kept g2 hqw
      clear G C R g2 hk4
      go_wp2_with fail
      refine (l04Shape_any k4 (by omega) _).mono ?_
      rintro e w3 ⟨A, c, B, d, rfl, ho, x3⟩
      have hh := shape_whole k4 ⟨hk0, hk1⟩
      generalize shn k4 = n at *
      generalize shN k4 = zs at *
      generalize shm k4 = m at *
      generalize shL k4 = ys at *
      have hs2 := G2.size
      have R4 := R2.ext x3
      have r0 := R4.c0
      have r1 := R4.c1
      have e0 := R4.f0
      have e1 := R4.f1
      have HE := Lib.hid (And.intro (ho.more (base' := q + 1) (by omega)) (And.intro R4 (And.intro (C2.ext x3) (G2.trans (x3.grownBy _)))))
      clear R2 C2 G2 x3 ho R4
      go_wp2
      obtain ⟨ho, R, C, G⟩ := HE.out
      refine bodyPost_ret (v := .agg #[.slice A n c, .slice B m d]) (by simp [results, Tryz.results14, go_sem, r0, r1]) rfl ⟨A, n, c, zs, B, m, d, ys, rfl, ?_, hh, ?_, ?_⟩
      · exact ho.setBox2 R _ _
      · exact (C.setBox hqs 0 _).setBox hqs 1 _
      · exact grownBy_new (grownBy_new G (Nat.le_refl _) 0 _) (Nat.le_refl _) 1 _
set_option maxRecDepth 100000 in
set_option maxHeartbeats 4000000 in
theorem DrawWhole_any (A : Option Addr) (n c : Nat) (g : Nat → Int) (hnc : n ≤ c) (hcm : c ≤ 9223372036854775807) (hn : n ≤ 1048576) (w : World) (hB : BRecs w A n g) :
    Calls Tryz.prog 5 #[.slice A n c] w (PostHw w) := by
  have R0 : BoxW (w.alloc (.cells #[.slice none 0 0, .slice none 0 0] 27)) w.heap.size (.slice none 0 0) (.slice none 0 0) := heap_alloc_new _ _
  have X0 : Ext w (w.alloc (.cells #[.slice none 0 0, .slice none 0 0] 27)) := (Ext.refl w).alloc _
  have hs0 : (w.alloc (.cells #[.slice none 0 0, .slice none 0 0] 27)).heap.size = w.heap.size + 1 := by rw [World.size_alloc]
  go_enter Tryz.func5, Tryz.ntmps5
  go_wp2_with fail
  generalize w.alloc (.cells #[.slice none 0 0, .slice none 0 0] 27) = w0 at *
  refine (l01New_any A n c g hnc hcm hn w0 (hB.ext X0)).mono ?_
  rintro e w1 ⟨q, rfl, hq, C1, x1⟩
  have X1 := X0.trans x1
  have R1 := R0.ext x1
  have hqw : w.heap.size ≤ q := by omega
  have hqn : (some q : Option Nat) ≠ some w.heap.size := fun e => by injection e with e; omega
  clear R0 x1
  go_wp2_with fail
  refine (l07Whole_any w A n c g hnc hcm hB q hqw w1 X1 C1).mono ?_
  rintro e w2 ⟨A2, n2, c2, zs, B2, m2, d2, ys, rfl, ho, hw, C2, g2⟩
  have X2 : Ext w w2 := X1.grown g2 (fun k e => by injection e with e; omega)
  have R2 := R1.kept g2 hqn
  have r0 := R2.c0
  have r1 := R2.c1
  have e0 := R2.f0
  have e1 := R2.f1
  have HE := Lib.hid (And.intro (ho.more (base' := w.heap.size) (by omega)) (And.intro R2 X2))
  clear ho C2 g2 X1 R1 C1 R2 X2
  go_wp2
  obtain ⟨ho, R2, X2⟩ := HE.out
  refine bodyPost_ret (v := .agg #[.slice A2 n2 c2, .slice B2 m2 d2]) (by simp [results, Tryz.results5, go_sem, r0, r1]) rfl ⟨A2, n2, c2, zs, B2, m2, d2, ys, rfl, ?_, hw, ?_⟩
  · exact ho.setBox2 R2 _ _
  · exact (X2.setCell (p := ⟨w.heap.size, 0, none⟩) (Nat.le_refl _) _).setCell (p := ⟨w.heap.size, 1, none⟩) (Nat.le_refl _) _

end Go.Proofs.YtgmhmlhdiklaaaaGreatDoor
