/-
  The reference's drawn deposits. No conditions.
-/
import Derived.Deep.DeepCutAuto
import Derived.Deep.CutRange
import Derived.Deep.DrawnRows
import Derived.RowKit3
import Derived.Laws.OwnMore
import Derived.Laws.Closers25b
import Derived.Test.YthnngekibkcgdaaDrawK
import Derived.Test.YthnngekibkcgdaaDepLaw
import Derived.Test.YthnngekibkcgdaaAddS
namespace Go.Proofs.Ythnngekibkcgdaa
open Go.RowKit
set_option linter.unusedVariables false

/-- A call hands back a drawn list of deposits in new memory. -/
def PostGD (w0 : World) (e : Ending) (w' : World) : Prop := ∃ A1 c1 n1 zs, e = .returned (.slice A1 n1 c1) ∧ n1 ≤ c1 ∧ c1 ≤ 9223372036854775807 ∧ GoodD n1 zs 8 ∧ MineS w0.heap.size w' 31 3 (.slice A1 n1 c1) n1 zs ∧ Ext w0 w'

attribute [local go_sem ↓] Go.wp_at_zero Go.wp_at_succ
attribute [local go_sem, local simp] Go.World.cell?_alloc_some Go.World.frozen?_alloc_past
set_option maxRecDepth 100000 in
set_option maxHeartbeats 4000000 in
theorem l32List_any (w0 : World) (A : Option Addr) (n c : Nat) (g : Nat → Int) (hnc : n ≤ c) (hcm : c ≤ 9223372036854775807) (hB : BRecs w0 A n g) (q : Nat) (hq : w0.heap.size ≤ q) (w : World) (X : Ext w0 w) (C : Cur w q A n c) :
    Calls Try.prog 20 #[.pointer (some ⟨q, 0, none⟩)] w (PostGD w0) := by
  have hql := C.lt
  go_enter Try.func20, Try.ntmps20
  go_wp2_with fail
  have C0 := C.ext ((Ext.refl w).alloc (.cells #[] 31))
  have X0 := X.alloc (.cells #[] 31)
  have m0 : MineS (q + 1) (w.alloc (.cells #[] 31)) 31 3 (.slice (some ⟨w.heap.size, 0, none⟩) 0 0) 0 [] := litG w _ _ rfl (by omega)
  refine (l01Below_any w0 A n c g hnc hcm hB q hq _ X0 C0 9 (by omega)).mono ?_
  rintro e w1 ⟨z, rfl, hz, C1, g1⟩
  have hz1 := hz.2.1 (by omega)
  have hz0 := hz.1
  have m1 := m0.kept g1 (.inr fun e => by have := m0.lt q e; omega)
  have X1 : Ext w0 w1 := X0.grown g1 fun k e => by injection e with e; omega
  clear C0 X0 m0 g1 hz C X
  go_wp2
  go_loopw [3, 4, 6, 7] (fun s d a i wr => ∃ (j : Nat) (A1 : Option Addr) (c1 n1 : Nat) (zs : List Int) (d0 a0 : Int), (j : Int) ≤ z ∧ i = .int .i64 j ∧ s = .slice A1 n1 c1 ∧ d = .int .i64 d0 ∧ a = .int .i64 a0 ∧ (0 ≤ d0 ∧ d0 ≤ 3 * j) ∧ (0 ≤ a0 ∧ a0 < 60) ∧ n1 ≤ c1 ∧ c1 ≤ 9223372036854775807 ∧ GoodD n1 zs j ∧ MineS (q + 1) wr 31 3 (.slice A1 n1 c1) n1 zs ∧ Cur wr q A n c ∧ Ext w0 wr) (fun _ _ _ i _ => (z - intOf i).toNat)
  case atStart => exact ⟨0, _, 0, 0, [], 0, 0, by omega, rfl, rfl, rfl, rfl, by omega, by omega, Nat.le_refl _, by omega, good_nil 0, m1, C1, X1⟩
  case round =>
    clear m1 C1 X1
    obtain ⟨j, A1, c1, n1, zs, d0, a0, hj, rfl, rfl, rfl, rfl, hd, ha, i1, j1, G, m, C, X⟩ := hrel
    by_cases hlt : (j : Int) < z
    · go_wp2_with fail
      refine (l01Below_any w0 A n c g hnc hcm hB q hq _ X C 4 (by omega)).mono ?_
      rintro e w2 ⟨z2, rfl, hz2, C2, g2⟩
      have hz21 := hz2.2.1 (by omega)
      have hz20 := hz2.1
      have m2 := m.kept g2 (.inr fun e => by have := m.lt q e; omega)
      have X2 : Ext w0 w2 := X.grown g2 fun k e => by injection e with e; omega
      clear m C X hz2 g2
      go_wp2_with fail
      refine (l01Below_any w0 A n c g hnc hcm hB q hq _ X2 C2 5 (by omega)).mono ?_
      rintro e w3 ⟨z3, rfl, hz3, C3, g3⟩
      have hz31 := hz3.2.1 (by omega)
      have hz30 := hz3.1
      have m3 := m2.kept g3 (.inr fun e => by have := m2.lt q e; omega)
      have X3 : Ext w0 w3 := X2.grown g3 fun k e => by injection e with e; omega
      clear m2 C2 X2 hz3 g3
      go_wp2_with fail
      refine (l01Below_any w0 A n c g hnc hcm hB q hq _ X3 C3 3 (by omega)).mono ?_
      rintro e w4 ⟨z4, rfl, hz4, C4, g4⟩
      have hz41 := hz4.2.1 (by omega)
      have hz40 := hz4.1
      have m4 := m3.kept g4 (.inr fun e => by have := m3.lt q e; omega)
      have X4 : Ext w0 w4 := X3.grown g4 fun k e => by injection e with e; omega
      clear m3 C3 X3 hz4 g4
      have hd2 : 0 ≤ d0 + z2 ∧ d0 + z2 ≤ 3 * ((j : Int) + 1) := by omega
      have ha2 : 0 ≤ (a0 + 1 + z3) % 60 ∧ (a0 + 1 + z3) % 60 < 60 := by omega
      have hp2 : 0 ≤ (a0 + 1 + z3) % 60 * 7 % 61 ∧ (a0 + 1 + z3) % 60 * 7 % 61 ≤ 60 := by omega
      go_wp2_with fail
      generalize (a0 + 1 + z3) % 60 * 7 % 61 = p2 at *
      generalize (a0 + 1 + z3) % 60 = a2 at *
      have hql4 := C4.lt
      refine (spec_AddDeposit A1 n1 c1 (FZ zs) i1 j1 (noneS_cap m4) (by have := G.2.1; omega) (1 + p2) (1 + z4) (d0 + z2) (by unfold I64; omega) (by unfold I64; omega) (by unfold I64; omega) _ ((m4.alloc _).recs)).mono ?_
      rintro e w5 ⟨A5, c5, rfl, i5, j5, m5, x5⟩
      have G5 := goodD_add (x := 1 + p2) (y := 1 + z4) (z := d0 + z2) G (by omega)
      have C5 := (C4.ext ((Ext.refl w4).alloc _)).ext x5
      have X5 := (X4.alloc _).trans x5
      replace m5 := m5.more (base' := q + 1) (by rw [World.size_alloc]; omega)
      generalize addN n1 (FZ zs) (1 + p2) (1 + z4) (d0 + z2) = n5 at *
      generalize addL n1 (FZ zs) (1 + p2) (1 + z4) (d0 + z2) = zs5 at *
      go_wp2
      go_roundw
      case rel => exact ⟨j + 1, A5, c5, n5, zs5, d0 + z2, a2, by omega, by go_num, rfl, rfl, rfl, by omega, ha2, i5, j5, G5, m5, C5, X5⟩
      case measure => simp [intOf]; omega
    · have e : (j : Int) = z := by omega
      have hz8 : j ≤ 8 := by omega
      go_wp2
      go_ret
      exact ⟨A1, c1, n1, zs, rfl, i1, j1, G.more hz8, m.more (by omega), X⟩

set_option maxHeartbeats 4000000 in
theorem DrawDeposits_any (A : Option Addr) (n c : Nat) (g : Nat → Int) (hnc : n ≤ c) (hcm : c ≤ 9223372036854775807) (hn : n ≤ 1048576) (w : World) (hB : BRecs w A n g) :
    Calls Try.prog 6 #[.slice A n c] w (PostGD w) := by
  go_enter Try.func6, Try.ntmps6
  go_wp2_with fail
  refine (l01New_any A n c g hnc hcm hn _ hB).mono ?_
  rintro e w1 ⟨q, rfl, hq, C, x1⟩
  go_wp2_with fail
  refine (l32List_any w A n c g hnc hcm hB q hq _ x1 C).mono ?_
  rintro e w2 ⟨A1, c1, n1, zs, rfl, i1, j1, G, m, X⟩
  go_wp2
  go_ret
  exact ⟨A1, c1, n1, zs, rfl, i1, j1, G, m, X⟩

end Go.Proofs.Ythnngekibkcgdaa
