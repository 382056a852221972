/-
  The reference's drawn weights. No conditions.
-/
import Derived.Deep.DeepCutAuto
import Derived.Deep.CutRange
import Derived.Deep.DrawnRows
import Derived.RowKit3
import Derived.Laws.OwnMore
import Derived.Laws.Closers25b
import Derived.Test.YthnngekibkcgdaaDrawK
import Derived.Test.YthnngekibkcgdaaInts
import Derived.Test.YthnngekibkcgdaaKitC
import Derived.Deep.RegionHeld
namespace Go.Proofs.Ythnngekibkcgdaa
open Go.RowKit
set_option linter.unusedVariables false

/-- A call hands back drawn weights and a limit, in new memory. -/
def PostGW (w0 : World) (e : Ending) (w' : World) : Prop := ∃ A1 c1 n1 zs lim, e = .returned (.tuple #[.slice A1 n1 c1, .int .i64 lim]) ∧ n1 ≤ c1 ∧ c1 ≤ 9223372036854775807 ∧ n1 ≤ 7 ∧ (∀ k, 0 ≤ ix zs k ∧ ix zs k ≤ 49) ∧ (50 ≤ lim ∧ lim ≤ 109) ∧ Mine w0.heap.size w' 3 (.slice A1 n1 c1) n1 zs ∧ Ext w0 w'

attribute [local go_sem ↓] Go.wp_at_zero Go.wp_at_succ
attribute [local go_sem, local simp] Go.World.cell?_alloc_some Go.World.frozen?_alloc_past
set_option maxRecDepth 100000 in
set_option maxHeartbeats 4000000 in
theorem l31Weights_any (w0 : World) (A : Option Addr) (n c : Nat) (g : Nat → Int) (hnc : n ≤ c) (hcm : c ≤ 9223372036854775807) (hB : BRecs w0 A n g) (q : Nat) (hq : w0.heap.size ≤ q) (w : World) (X : Ext w0 w) (C : Cur w q A n c) :
    Calls Try.prog 27 #[.pointer (some ⟨q, 0, none⟩)] w (PostGW w0) := by
  have hql := C.lt
  have C0 := C.ext ((Ext.refl w).alloc (.cells #[] 3))
  have X0 := X.alloc (.cells #[] 3)
  have m0 : Mine (q + 1) (w.alloc (.cells #[] 3)) 3 (.slice (some ⟨w.heap.size, 0, none⟩) 0 0) 0 [] := (Mine.lit0 w 3).more (by omega)
  go_enter Try.func27, Try.ntmps27
  go_wp2_with fail
  refine (l01Below_any w0 A n c g hnc hcm hB q hq _ X0 C0 8 (by omega)).mono ?_
  rintro e w1 ⟨z, rfl, hz, C1, g1⟩
  have hz1 := hz.2.1 (by omega)
  have hz0 := hz.1
  have m1 := m0.kept g1 (.inr fun e => by have := m0.lt q e; omega)
  have X1 : Ext w0 w1 := X0.grown g1 fun k e => by injection e with e; omega
  clear C0 X0 m0 g1 hz C X
  go_wp2
  go_loopw [4, 6] (fun s i wr => ∃ (j : Nat) (A1 : Option Addr) (c1 : Nat) (zs : List Int), (j : Int) ≤ z ∧ i = .int .i64 j ∧ s = .slice A1 j c1 ∧ j ≤ c1 ∧ c1 ≤ 9223372036854775807 ∧ (∀ k, 0 ≤ ix zs k ∧ ix zs k ≤ 49) ∧ Mine (q + 1) wr 3 (.slice A1 j c1) j zs ∧ Cur wr q A n c ∧ Ext w0 wr) (fun _ i _ => (z - intOf i).toNat)
  case atStart => exact ⟨0, _, 0, [], by omega, rfl, rfl, Nat.le_refl _, by omega, fun k => by rw [ix_out (by simp)]; omega, m1, C1, X1⟩
  case round =>
    clear m1 C1 X1
    obtain ⟨j, A1, c1, zs, hj, rfl, rfl, i1, j1, hall, m, C, X⟩ := hrel
    have HALL := Lib.hid hall
    clear hall
    by_cases hlt : (j : Int) < z
    · go_wp2_with fail
      refine (l01Below_any w0 A n c g hnc hcm hB q hq _ X C 50 (by omega)).mono ?_
      rintro e w2 ⟨z2, rfl, hz2, C2, g2⟩
      have hz21 := hz2.2.1 (by omega)
      have hz20 := hz2.1
      have m2 := m.kept g2 (.inr fun e => by have := m.lt q e; omega)
      have X2 : Ext w0 w2 := X.grown g2 fun k e => by injection e with e; omega
      have hql2 := C2.lt
      clear m C X hz2 g2
      go_wp2_with (at_builtin; refine append_int _ rfl _ _ rfl (q + 1) _ _ _ rfl (m2.alloc _) z2 _ rfl (cell_new1 (by simp)) (by unfold I64; omega) (by omega) (by rw [World.size_alloc]; omega) ?_; intro v3 w3 m3 g3; have C3 : Cur w3 q A n c := (C2.ext ((Ext.refl w2).alloc (.cells #[.int .i64 z2] 3))).kept g3 (fun e => by have := m2.lt q e; omega); have X3 : Ext w0 w3 := (X2.alloc _).grown g3 (fun k e => by have := m2.lt k e; omega); obtain ⟨A3, c3, rfl, i3, j3⟩ := m3.form)
      have hl3 := m2.1
      go_roundw
      case rel => exact ⟨j + 1, A3, c3, zs ++ [z2], by omega, by go_num, rfl, i3, j3, fun k => by
        rw [ix_snoc]
        split
        · exact HALL.out k
        · split <;> omega, m3, C3, X3⟩
      case measure => simp [intOf]; omega
    · have e : (j : Int) = z := by omega
      have hj7 : j ≤ 7 := by omega
      go_wp2_with fail
      refine (l01Below_any w0 A n c g hnc hcm hB q hq _ X C 60 (by omega)).mono ?_
      rintro e w2 ⟨z2, rfl, hz2, C2, g2⟩
      have hz21 := hz2.2.1 (by omega)
      have hz20 := hz2.1
      have m2 := m.kept g2 (.inr fun e => by have := m.lt q e; omega)
      have X2 : Ext w0 w2 := X.grown g2 fun k e => by injection e with e; omega
      go_wp2
      go_ret2
      exact ⟨A1, c1, j, zs, 50 + z2, rfl, i1, j1, hj7, HALL.out, by omega, m2.more (by omega), X2⟩
set_option maxHeartbeats 4000000 in
theorem DrawPanes_any (A : Option Addr) (n c : Nat) (g : Nat → Int) (hnc : n ≤ c) (hcm : c ≤ 9223372036854775807) (hn : n ≤ 1048576) (w : World) (hB : BRecs w A n g) :
    Calls Try.prog 14 #[.slice A n c] w (PostGW w) := by
  go_enter Try.func14, Try.ntmps14
  go_wp2_with fail
  refine (l01New_any A n c g hnc hcm hn _ hB).mono ?_
  rintro e w1 ⟨q, rfl, hq, C, x1⟩
  go_wp2_with fail
  refine (l31Weights_any w A n c g hnc hcm hB q hq _ x1 C).mono ?_
  rintro e w2 ⟨A1, c1, n1, zs, lim, rfl, i1, j1, h7, hall, hl, m, X⟩
  go_wp2
  go_ret2
  exact ⟨A1, c1, n1, zs, lim, rfl, i1, j1, h7, hall, hl, m, X⟩

end Go.Proofs.Ythnngekibkcgdaa
