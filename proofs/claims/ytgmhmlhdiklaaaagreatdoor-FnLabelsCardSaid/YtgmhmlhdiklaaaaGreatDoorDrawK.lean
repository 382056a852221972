/-
  The reference's cursor over the bytes of a draw: its state ('Cur'), a byte drawn, a number below a bound. No conditions.
-/
import Derived.Deep.DeepCutAuto
import Derived.Deep.CutRange
import Derived.Deep.DrawnRows
import Derived.RowKit3
import Derived.Laws.OwnMore
import Derived.Laws.Closers25b
import Derived.Test.YtgmhmlhdiklaaaaGreatDoorKitD
import Derived.Test.YtgmhmlhdiklaaaaGreatDoorRows
namespace Go.Proofs.YtgmhmlhdiklaaaaGreatDoor
open Go.RowKit
set_option linter.unusedVariables false

theorem and_rng (a : Int) (m : Nat) (hm : m < 4611686018427387904) : 0 ≤ bits .and .i64 a (m : Int) ∧ bits .and .i64 a (m : Int) ≤ (m : Int) := by
  have h1 : (BitVec.ofInt 64 (m : Int)).toNat = m := by
    rw [BitVec.ofInt_natCast, BitVec.toNat_ofNat]; exact Nat.mod_eq_of_lt (by omega)
  have h2 : (BitVec.ofInt 64 a).toNat &&& m ≤ m := Nat.and_le_right
  have h3 : bits .and .i64 a (m : Int) = IntKind.i64.wrap ((((BitVec.ofInt 64 a).toNat &&& m : Nat)) : Int) := by
    show IntKind.i64.wrap ((BitVec.ofInt 64 a &&& BitVec.ofInt 64 (m : Int)).toNat : Int) = _
    rw [BitVec.toNat_and, h1]
  rw [h3]
  generalize (BitVec.ofInt 64 a).toNat &&& m = x at *
  have h4 : IntKind.i64.wrap (x : Int) = (x : Int) := by
    simp only [IntKind.wrap, IntKind.bits, IntKind.signed]
    simp
    split <;> omega
  rw [h4]
  omega
theorem i64_wrap (z : Int) : I64 (IntKind.wrap .i64 z) := by
  have := wrap_within .i64 z
  exact this

theorem grownBy_setC {w wr : World} {g : Nat} (h : w.grownBy wr (some g)) (i : Nat) (u : Value) : w.grownBy (wr.setCell ⟨g, i, none⟩ u) (some g) :=
  ⟨h.os, h.tape, h.output, by simpa [World.setCell] using h.size, fun k hk hne => (Below.heap_setCell _ _ u k (by rintro rfl; exact hne rfl)).trans (h.block k hk hne)⟩
theorem grownBy_dr {w wr : World} {r : Option Nat} (h : w.grownBy wr r) : w.grownBy wr.drew r := ⟨h.os, h.tape, h.output, h.size, h.block⟩
/-- The block q holds a cursor over the bytes at A. -/
def Cur (w : World) (q : Nat) (A : Option Addr) (n c : Nat) : Prop :=
  ∃ (i : Nat) (h : Int), i ≤ n ∧ I64 h ∧ w.ownsRow q 58 3 (.slice (some ⟨q, 0, none⟩) 1 1) 1 [.slice A n c, .int .i64 i, .int .i64 h]
section
variable {w w' : World} {q n c : Nat} {A : Option Addr}
theorem Cur.kept {row : Option Nat} (h : Cur w q A n c) (hg : w.grownBy w' row) (hne : row ≠ some q) : Cur w' q A n c := by
  obtain ⟨i, z, h1, h2, h3⟩ := h
  exact ⟨i, z, h1, h2, h3.kept hg (.inr fun e => hne e.symm)⟩
theorem Cur.ext (h : Cur w q A n c) (he : Ext w w') : Cur w' q A n c := h.kept (he.grownBy none) (by simp)
theorem Cur.lt (h : Cur w q A n c) : q < w.heap.size := by
  obtain ⟨i, z, _, _, h3⟩ := h
  exact (h3.lt q rfl).2
end
/-- A call draws a number with the property p; the cursor goes on, and nothing else turns. -/
def PostZ (w : World) (q : Nat) (A : Option Addr) (n c : Nat) (p : Int → Prop) (e : Ending) (w' : World) : Prop :=
  ∃ z : Int, e = .returned (.int .i64 z) ∧ p z ∧ Cur w' q A n c ∧ w.grownBy w' (some q)

set_option maxRecDepth 100000 in
set_option maxHeartbeats 4000000 in
theorem l01Byte_any (w0 : World) (A : Option Addr) (n c : Nat) (g : Nat → Int) (hnc : n ≤ c) (hcm : c ≤ 9223372036854775807) (hB : BRecs w0 A n g) (q : Nat) (hq : w0.heap.size ≤ q) (w : World) (X : Ext w0 w) (C : Cur w q A n c) :
    Calls Tryz.prog 52 #[.pointer (some ⟨q, 0, none⟩)] w (PostZ w q A n c fun z => 0 ≤ z ∧ z ≤ 255) := by
  obtain ⟨i, h, hi, hh, hrow⟩ := C
  have c0 : w.cell? ⟨q, 0, none⟩ = some (.slice A n c) := hrow.cellAt 0 (by omega)
  have c1 : w.cell? ⟨q, 1, none⟩ = some (.int .i64 i) := hrow.cellAt 1 (by omega)
  have c2 : w.cell? ⟨q, 2, none⟩ = some (.int .i64 h) := hrow.cellAt 2 (by omega)
  have f1 := hrow.frozenAt 1
  have f2 := hrow.frozenAt 2
  have HS := Lib.hid (fun u => hrow.stored 2 u)
  have hb1 : I64 (wrap64 (wrap64 (h * 6364136223846793005) + 1442695040888963407)) := by unfold wrap64 I64; omega
  have X0 := X
  by_cases hlt : i < n
  · have hltz : (i : Int) < n := by omega
    go_enter Tryz.func52, Tryz.ntmps52
    go_upto_region 2 with fail
    have hs := HS.out (.int .i64 (wrap64 (wrap64 (h * 6364136223846793005) + 1442695040888963407)))
    generalize wrap64 (wrap64 (h * 6364136223846793005) + 1442695040888963407) = h1 at *
    generalize wrap64 (h * 6364136223846793005) = t9 at *
    obtain ⟨hs1, hs2⟩ := hs
    have X1 : Ext w0 (w.setCell ⟨q, 2, none⟩ (.int .i64 h1)) := X.setCell hq _
    generalize w.setCell ⟨q, 2, none⟩ (.int .i64 h1) = W at *
    have d0 : W.cell? ⟨q, 0, none⟩ = some (.slice A n c) := hs1.cellAt 0 (by omega)
    have d1 : W.cell? ⟨q, 1, none⟩ = some (.int .i64 i) := hs1.cellAt 1 (by omega)
    have d2 : W.cell? ⟨q, 2, none⟩ = some (.int .i64 h1) := hs1.cellAt 2 (by omega)
    have e1 := hs1.frozenAt 1
    obtain ⟨b, o, rfl, hbl, hbc⟩ := (hB.ext X1).1 (by omega)
    have hbi := hbc i hlt
    have hgi := hB.2 i
    have HS1 := Lib.hid (hs1.stored 1 (.int .i64 ((i : Int) + 1)))
    have HG := Lib.hid hs2
    have HQ := Lib.hid hs1
    clear hrow HS hs1 hs2 hbc c0 c1 c2 f1 f2 hB X X0
    go_region
    go_wp2
    go_region
    go_wp2
    go_region
    go_wp2
    go_ret
    refine ⟨_, rfl, and_rng _ 255 (by omega), ⟨i + 1, h1, by omega, hb1, ?_⟩, ?_⟩
    · exact HS1.out.1
    · exact grownBy_dr (grownBy_dr (grownBy_dr (grownBy_setC HG.out 1 _)))
  · have hltz : ¬ (i : Int) < n := by omega
    go_enter Tryz.func52, Tryz.ntmps52
    go_upto_region 2 with fail
    have hs := HS.out (.int .i64 (wrap64 (wrap64 (h * 6364136223846793005) + 1442695040888963407)))
    generalize wrap64 (wrap64 (h * 6364136223846793005) + 1442695040888963407) = h1 at *
    generalize wrap64 (h * 6364136223846793005) = t9 at *
    obtain ⟨hs1, hs2⟩ := hs
    generalize w.setCell ⟨q, 2, none⟩ (.int .i64 h1) = W at *
    have d0 : W.cell? ⟨q, 0, none⟩ = some (.slice A n c) := hs1.cellAt 0 (by omega)
    have d1 : W.cell? ⟨q, 1, none⟩ = some (.int .i64 i) := hs1.cellAt 1 (by omega)
    have d2 : W.cell? ⟨q, 2, none⟩ = some (.int .i64 h1) := hs1.cellAt 2 (by omega)
    have HG := Lib.hid hs2
    have HQ := Lib.hid hs1
    clear hrow HS hs1 hs2 c0 c1 c2 f1 f2 hB X X0
    go_region
    go_wp2
    go_region
    go_wp2
    go_ret
    refine ⟨_, rfl, and_rng _ 255 (by omega), ⟨i, h1, hi, hb1, ?_⟩, ?_⟩
    · exact HQ.out
    · exact grownBy_dr (grownBy_dr HG.out)
set_option maxRecDepth 100000 in
set_option maxHeartbeats 4000000 in
theorem l01Below_any (w0 : World) (A : Option Addr) (n c : Nat) (g : Nat → Int) (hnc : n ≤ c) (hcm : c ≤ 9223372036854775807) (hB : BRecs w0 A n g) (q : Nat) (hq : w0.heap.size ≤ q) (w : World) (X : Ext w0 w) (C : Cur w q A n c) (m : Int) (hm : m ≤ 256) :
    Calls Tryz.prog 33 #[.pointer (some ⟨q, 0, none⟩), .int .i64 m] w (PostZ w q A n c fun z => 0 ≤ z ∧ (0 < m → z < m) ∧ (m ≤ 0 → z = 0)) := by
  by_cases h0 : m ≤ 0
  · go_enter Tryz.func33, Tryz.ntmps33
    go_wp2
    go_ret
    exact ⟨0, rfl, ⟨by omega, fun h => by omega, fun _ => rfl⟩, C, World.grownBy.refl _ _⟩
  · have hm0 : 0 < m := by omega
    go_enter Tryz.func33, Tryz.ntmps33
    go_wp2_with fail
    refine (l01Byte_any w0 A n c g hnc hcm hB q hq w X C).mono ?_
    rintro e w1 ⟨z, rfl, hz, C1, g1⟩
    have hz0 := hz.1
    have hmn : ¬ m = 0 := by omega
    have r0 : 0 ≤ z % m := Int.emod_nonneg _ (by omega)
    have r1 : z % m < m := Int.emod_lt_of_pos _ hm0
    go_wp2
    go_ret
    exact ⟨z % m, rfl, ⟨r0, fun _ => r1, fun h => absurd h (by omega)⟩, C1, g1⟩

set_option maxRecDepth 100000 in
set_option maxHeartbeats 4000000 in
theorem l01New_any (A : Option Addr) (n c : Nat) (g : Nat → Int) (hnc : n ≤ c) (hcm : c ≤ 9223372036854775807) (hn : n ≤ 1048576) (w : World) (hB : BRecs w A n g) :
    Calls Tryz.prog 15 #[.slice A n c] w fun e w' => ∃ q, e = .returned (.pointer (some ⟨q, 0, none⟩)) ∧ w.heap.size ≤ q ∧ Cur w' q A n c ∧ Ext w w' := by
  have hM := fun (a : Int) => and_rng a 1073741823 (by omega)
  go_enter Tryz.func15, Tryz.ntmps15
  go_wp2
  go_loop [3, 4] (fun s i => ∃ (j : Nat) (h : Int), j ≤ n ∧ i = .int .i64 j ∧ s = .int .i64 h ∧ 0 ≤ h ∧ h ≤ 1073741823) (fun _ i => n - (intOf i).toNat)
  case atStart => exact ⟨0, 33031 + n, Nat.zero_le _, rfl, by first | rfl | (congr 1), by omega, by omega⟩
  case round =>
    obtain ⟨j, h, hj, rfl, rfl, h0, h1⟩ := hrel
    by_cases hlt : j < n
    · by_cases h4 : j < 4000
      · obtain ⟨b, o, rfl, hb, hc⟩ := hB.1 (by omega)
        have hcj := hc j hlt
        have hbj := hB.2 j
        have hM1 := hM (h * 131 + g j + 7)
        clear hc
        go_wp2
        go_round
        case rel => exact ⟨j + 1, _, by omega, by go_num, rfl, hM1.1, hM1.2⟩
        case measure => simp [intOf]; omega
      · go_wp2
        go_ret
        refine ⟨_, rfl, Nat.le_refl _, ⟨0, h, Nat.zero_le _, by unfold I64; omega, ?_⟩, (Ext.refl w).alloc _⟩
        exact World.ownsRow_lit w #[.slice A n c, .int .i64 0, .int .i64 h] 1 (Nat.le_refl _) (by simp [maxLen]) rfl
    · obtain rfl : j = n := by omega
      go_wp2
      go_ret
      refine ⟨_, rfl, Nat.le_refl _, ⟨0, h, Nat.zero_le _, by unfold I64; omega, ?_⟩, (Ext.refl w).alloc _⟩
      exact World.ownsRow_lit w #[.slice A j c, .int .i64 0, .int .i64 h] 1 (Nat.le_refl _) (by simp [maxLen]) rfl

end Go.Proofs.YtgmhmlhdiklaaaaGreatDoor
