/-
  Texts of one kind, one behind the other: FmtW StrK LabV. No conditions.
-/
import Derived.Test.YtgmhmlhdiklaaaaGreatDoorWithin
import Derived.Test.YtgmhmlhdiklaaaaGreatDoorKitC
import Derived.Test.YtgmhmlhdiklaaaaGreatDoorKitR
import Derived.Laws.IdiomStrings
import Derived.Test.YtgmhmlhdiklaaaaGreatDoorInts
import Derived.Deep.RegionLaw
import Derived.Test.YtgmhmlhdiklaaaaGreatDoorOrdM
/- FmtW -/
namespace Go.Proofs.YtgmhmlhdiklaaaaGreatDoor
open Go.RowKit
set_option linter.unusedVariables false

def decT (k : Nat) : ByteArray := ⟨if k < 10 then #[UInt8.ofNat (48 + k)] else #[UInt8.ofNat (48 + k / 10), UInt8.ofNat (48 + k % 10)]⟩

theorem text_one (w : World) (b : UInt8) (z : Int) (hz : z = (b.toNat : Int)) : (convert 22 9 (.slice (some ⟨w.heap.size, 0, none⟩) 1 1)).run Tryz.prog (w.alloc (.cells #[.int .u8 z] 5)) = .ok (.string ⟨#[b]⟩) (w.alloc (.cells #[.int .u8 z] 5)) := by
  refine run_convert_bytes_back _ _ _ 5 ⟨w.heap.size, 0, none⟩ 1 [b] Tryz.underlying22 Tryz.underlying5 Tryz.underlying9 ?_
  intro j hj
  obtain rfl : j = 0 := by simpa using hj
  subst hz
  simp [Addr.add]

set_option maxRecDepth 100000 in
set_option maxHeartbeats 1000000 in
theorem impl_fmt1 (w : World) : Calls Tryz.prog 43 #[.int .i64 1] w fun e w' => e = .returned (.string (decT 1)) ∧ Ext w w' := by
  have H1 : Hid (∀ W, Calls Tryz.prog 90 #[.int .i64 1] W fun e w' => e = .returned (.string (decT 1)) ∧ Ext W w') := Lib.hid (fun W => by
    go_enter Tryz.func90, Tryz.ntmps90
    go_wp2
    go_ret
    exact ⟨rfl, Ext.refl _⟩)
  have H2 : Hid (∀ W, Calls Tryz.prog 85 #[.int .i64 1, .int .i64 10] W fun e w' => e = .returned (.string (decT 1)) ∧ Ext W w') := Lib.hid (fun W => by
    go_enter Tryz.func85, Tryz.ntmps85
    go_wp2_with fail
    refine (H1.out _).mono ?_
    rintro e w1 ⟨rfl, x1⟩
    go_wp2
    go_ret
    exact ⟨rfl, x1⟩)
  have H3 : Hid (∀ W, Calls Tryz.prog 79 #[.int .i64 1] W fun e w' => e = .returned (.string (decT 1)) ∧ Ext W w') := Lib.hid (fun W => by
    go_enter Tryz.func79, Tryz.ntmps79
    go_wp2_with fail
    refine (H2.out _).mono ?_
    rintro e w1 ⟨rfl, x1⟩
    go_wp2
    go_ret
    exact ⟨rfl, x1⟩)
  have H4 : Hid (∀ W, Calls Tryz.prog 68 #[.int .i64 1] W fun e w' => e = .returned (.string (decT 1)) ∧ Ext W w') := Lib.hid (fun W => by
    go_enter Tryz.func68, Tryz.ntmps68
    go_wp2_with fail
    refine (H3.out _).mono ?_
    rintro e w1 ⟨rfl, x1⟩
    go_wp2
    go_ret
    exact ⟨rfl, x1⟩)
  go_enter Tryz.func43, Tryz.ntmps43
  go_wp2_with fail
  refine (H4.out _).mono ?_
  rintro e w1 ⟨rfl, x1⟩
  go_wp2
  go_ret
  exact ⟨rfl, x1⟩
set_option maxRecDepth 100000 in
set_option maxHeartbeats 1000000 in
theorem impl_fmt2 (w : World) : Calls Tryz.prog 43 #[.int .i64 2] w fun e w' => e = .returned (.string (decT 2)) ∧ Ext w w' := by
  have H1 : Hid (∀ W, Calls Tryz.prog 90 #[.int .i64 2] W fun e w' => e = .returned (.string (decT 2)) ∧ Ext W w') := Lib.hid (fun W => by
    go_enter Tryz.func90, Tryz.ntmps90
    go_wp2
    go_ret
    exact ⟨rfl, Ext.refl _⟩)
  have H2 : Hid (∀ W, Calls Tryz.prog 85 #[.int .i64 2, .int .i64 10] W fun e w' => e = .returned (.string (decT 2)) ∧ Ext W w') := Lib.hid (fun W => by
    go_enter Tryz.func85, Tryz.ntmps85
    go_wp2_with fail
    refine (H1.out _).mono ?_
    rintro e w1 ⟨rfl, x1⟩
    go_wp2
    go_ret
    exact ⟨rfl, x1⟩)
  have H3 : Hid (∀ W, Calls Tryz.prog 79 #[.int .i64 2] W fun e w' => e = .returned (.string (decT 2)) ∧ Ext W w') := Lib.hid (fun W => by
    go_enter Tryz.func79, Tryz.ntmps79
    go_wp2_with fail
    refine (H2.out _).mono ?_
    rintro e w1 ⟨rfl, x1⟩
    go_wp2
    go_ret
    exact ⟨rfl, x1⟩)
  have H4 : Hid (∀ W, Calls Tryz.prog 68 #[.int .i64 2] W fun e w' => e = .returned (.string (decT 2)) ∧ Ext W w') := Lib.hid (fun W => by
    go_enter Tryz.func68, Tryz.ntmps68
    go_wp2_with fail
    refine (H3.out _).mono ?_
    rintro e w1 ⟨rfl, x1⟩
    go_wp2
    go_ret
    exact ⟨rfl, x1⟩)
  go_enter Tryz.func43, Tryz.ntmps43
  go_wp2_with fail
  refine (H4.out _).mono ?_
  rintro e w1 ⟨rfl, x1⟩
  go_wp2
  go_ret
  exact ⟨rfl, x1⟩
set_option maxRecDepth 100000 in
set_option maxHeartbeats 1000000 in
theorem impl_fmt3 (w : World) : Calls Tryz.prog 43 #[.int .i64 3] w fun e w' => e = .returned (.string (decT 3)) ∧ Ext w w' := by
  have H1 : Hid (∀ W, Calls Tryz.prog 90 #[.int .i64 3] W fun e w' => e = .returned (.string (decT 3)) ∧ Ext W w') := Lib.hid (fun W => by
    go_enter Tryz.func90, Tryz.ntmps90
    go_wp2
    go_ret
    exact ⟨rfl, Ext.refl _⟩)
  have H2 : Hid (∀ W, Calls Tryz.prog 85 #[.int .i64 3, .int .i64 10] W fun e w' => e = .returned (.string (decT 3)) ∧ Ext W w') := Lib.hid (fun W => by
    go_enter Tryz.func85, Tryz.ntmps85
    go_wp2_with fail
    refine (H1.out _).mono ?_
    rintro e w1 ⟨rfl, x1⟩
    go_wp2
    go_ret
    exact ⟨rfl, x1⟩)
  have H3 : Hid (∀ W, Calls Tryz.prog 79 #[.int .i64 3] W fun e w' => e = .returned (.string (decT 3)) ∧ Ext W w') := Lib.hid (fun W => by
    go_enter Tryz.func79, Tryz.ntmps79
    go_wp2_with fail
    refine (H2.out _).mono ?_
    rintro e w1 ⟨rfl, x1⟩
    go_wp2
    go_ret
    exact ⟨rfl, x1⟩)
  have H4 : Hid (∀ W, Calls Tryz.prog 68 #[.int .i64 3] W fun e w' => e = .returned (.string (decT 3)) ∧ Ext W w') := Lib.hid (fun W => by
    go_enter Tryz.func68, Tryz.ntmps68
    go_wp2_with fail
    refine (H3.out _).mono ?_
    rintro e w1 ⟨rfl, x1⟩
    go_wp2
    go_ret
    exact ⟨rfl, x1⟩)
  go_enter Tryz.func43, Tryz.ntmps43
  go_wp2_with fail
  refine (H4.out _).mono ?_
  rintro e w1 ⟨rfl, x1⟩
  go_wp2
  go_ret
  exact ⟨rfl, x1⟩
set_option maxRecDepth 100000 in
set_option maxHeartbeats 1000000 in
theorem impl_fmt4 (w : World) : Calls Tryz.prog 43 #[.int .i64 4] w fun e w' => e = .returned (.string (decT 4)) ∧ Ext w w' := by
  have H1 : Hid (∀ W, Calls Tryz.prog 90 #[.int .i64 4] W fun e w' => e = .returned (.string (decT 4)) ∧ Ext W w') := Lib.hid (fun W => by
    go_enter Tryz.func90, Tryz.ntmps90
    go_wp2
    go_ret
    exact ⟨rfl, Ext.refl _⟩)
  have H2 : Hid (∀ W, Calls Tryz.prog 85 #[.int .i64 4, .int .i64 10] W fun e w' => e = .returned (.string (decT 4)) ∧ Ext W w') := Lib.hid (fun W => by
    go_enter Tryz.func85, Tryz.ntmps85
    go_wp2_with fail
    refine (H1.out _).mono ?_
    rintro e w1 ⟨rfl, x1⟩
    go_wp2
    go_ret
    exact ⟨rfl, x1⟩)
  have H3 : Hid (∀ W, Calls Tryz.prog 79 #[.int .i64 4] W fun e w' => e = .returned (.string (decT 4)) ∧ Ext W w') := Lib.hid (fun W => by
    go_enter Tryz.func79, Tryz.ntmps79
    go_wp2_with fail
    refine (H2.out _).mono ?_
    rintro e w1 ⟨rfl, x1⟩
    go_wp2
    go_ret
    exact ⟨rfl, x1⟩)
  have H4 : Hid (∀ W, Calls Tryz.prog 68 #[.int .i64 4] W fun e w' => e = .returned (.string (decT 4)) ∧ Ext W w') := Lib.hid (fun W => by
    go_enter Tryz.func68, Tryz.ntmps68
    go_wp2_with fail
    refine (H3.out _).mono ?_
    rintro e w1 ⟨rfl, x1⟩
    go_wp2
    go_ret
    exact ⟨rfl, x1⟩)
  go_enter Tryz.func43, Tryz.ntmps43
  go_wp2_with fail
  refine (H4.out _).mono ?_
  rintro e w1 ⟨rfl, x1⟩
  go_wp2
  go_ret
  exact ⟨rfl, x1⟩
set_option maxRecDepth 100000 in
set_option maxHeartbeats 1000000 in
theorem impl_fmt5 (w : World) : Calls Tryz.prog 43 #[.int .i64 5] w fun e w' => e = .returned (.string (decT 5)) ∧ Ext w w' := by
  have H1 : Hid (∀ W, Calls Tryz.prog 90 #[.int .i64 5] W fun e w' => e = .returned (.string (decT 5)) ∧ Ext W w') := Lib.hid (fun W => by
    go_enter Tryz.func90, Tryz.ntmps90
    go_wp2
    go_ret
    exact ⟨rfl, Ext.refl _⟩)
  have H2 : Hid (∀ W, Calls Tryz.prog 85 #[.int .i64 5, .int .i64 10] W fun e w' => e = .returned (.string (decT 5)) ∧ Ext W w') := Lib.hid (fun W => by
    go_enter Tryz.func85, Tryz.ntmps85
    go_wp2_with fail
    refine (H1.out _).mono ?_
    rintro e w1 ⟨rfl, x1⟩
    go_wp2
    go_ret
    exact ⟨rfl, x1⟩)
  have H3 : Hid (∀ W, Calls Tryz.prog 79 #[.int .i64 5] W fun e w' => e = .returned (.string (decT 5)) ∧ Ext W w') := Lib.hid (fun W => by
    go_enter Tryz.func79, Tryz.ntmps79
    go_wp2_with fail
    refine (H2.out _).mono ?_
    rintro e w1 ⟨rfl, x1⟩
    go_wp2
    go_ret
    exact ⟨rfl, x1⟩)
  have H4 : Hid (∀ W, Calls Tryz.prog 68 #[.int .i64 5] W fun e w' => e = .returned (.string (decT 5)) ∧ Ext W w') := Lib.hid (fun W => by
    go_enter Tryz.func68, Tryz.ntmps68
    go_wp2_with fail
    refine (H3.out _).mono ?_
    rintro e w1 ⟨rfl, x1⟩
    go_wp2
    go_ret
    exact ⟨rfl, x1⟩)
  go_enter Tryz.func43, Tryz.ntmps43
  go_wp2_with fail
  refine (H4.out _).mono ?_
  rintro e w1 ⟨rfl, x1⟩
  go_wp2
  go_ret
  exact ⟨rfl, x1⟩
set_option maxRecDepth 100000 in
set_option maxHeartbeats 1000000 in
theorem impl_fmt6 (w : World) : Calls Tryz.prog 43 #[.int .i64 6] w fun e w' => e = .returned (.string (decT 6)) ∧ Ext w w' := by
  have H1 : Hid (∀ W, Calls Tryz.prog 90 #[.int .i64 6] W fun e w' => e = .returned (.string (decT 6)) ∧ Ext W w') := Lib.hid (fun W => by
    go_enter Tryz.func90, Tryz.ntmps90
    go_wp2
    go_ret
    exact ⟨rfl, Ext.refl _⟩)
  have H2 : Hid (∀ W, Calls Tryz.prog 85 #[.int .i64 6, .int .i64 10] W fun e w' => e = .returned (.string (decT 6)) ∧ Ext W w') := Lib.hid (fun W => by
    go_enter Tryz.func85, Tryz.ntmps85
    go_wp2_with fail
    refine (H1.out _).mono ?_
    rintro e w1 ⟨rfl, x1⟩
    go_wp2
    go_ret
    exact ⟨rfl, x1⟩)
  have H3 : Hid (∀ W, Calls Tryz.prog 79 #[.int .i64 6] W fun e w' => e = .returned (.string (decT 6)) ∧ Ext W w') := Lib.hid (fun W => by
    go_enter Tryz.func79, Tryz.ntmps79
    go_wp2_with fail
    refine (H2.out _).mono ?_
    rintro e w1 ⟨rfl, x1⟩
    go_wp2
    go_ret
    exact ⟨rfl, x1⟩)
  have H4 : Hid (∀ W, Calls Tryz.prog 68 #[.int .i64 6] W fun e w' => e = .returned (.string (decT 6)) ∧ Ext W w') := Lib.hid (fun W => by
    go_enter Tryz.func68, Tryz.ntmps68
    go_wp2_with fail
    refine (H3.out _).mono ?_
    rintro e w1 ⟨rfl, x1⟩
    go_wp2
    go_ret
    exact ⟨rfl, x1⟩)
  go_enter Tryz.func43, Tryz.ntmps43
  go_wp2_with fail
  refine (H4.out _).mono ?_
  rintro e w1 ⟨rfl, x1⟩
  go_wp2
  go_ret
  exact ⟨rfl, x1⟩
set_option maxRecDepth 100000 in
set_option maxHeartbeats 1000000 in
theorem impl_fmt7 (w : World) : Calls Tryz.prog 43 #[.int .i64 7] w fun e w' => e = .returned (.string (decT 7)) ∧ Ext w w' := by
  have H1 : Hid (∀ W, Calls Tryz.prog 90 #[.int .i64 7] W fun e w' => e = .returned (.string (decT 7)) ∧ Ext W w') := Lib.hid (fun W => by
    go_enter Tryz.func90, Tryz.ntmps90
    go_wp2
    go_ret
    exact ⟨rfl, Ext.refl _⟩)
  have H2 : Hid (∀ W, Calls Tryz.prog 85 #[.int .i64 7, .int .i64 10] W fun e w' => e = .returned (.string (decT 7)) ∧ Ext W w') := Lib.hid (fun W => by
    go_enter Tryz.func85, Tryz.ntmps85
    go_wp2_with fail
    refine (H1.out _).mono ?_
    rintro e w1 ⟨rfl, x1⟩
    go_wp2
    go_ret
    exact ⟨rfl, x1⟩)
  have H3 : Hid (∀ W, Calls Tryz.prog 79 #[.int .i64 7] W fun e w' => e = .returned (.string (decT 7)) ∧ Ext W w') := Lib.hid (fun W => by
    go_enter Tryz.func79, Tryz.ntmps79
    go_wp2_with fail
    refine (H2.out _).mono ?_
    rintro e w1 ⟨rfl, x1⟩
    go_wp2
    go_ret
    exact ⟨rfl, x1⟩)
  have H4 : Hid (∀ W, Calls Tryz.prog 68 #[.int .i64 7] W fun e w' => e = .returned (.string (decT 7)) ∧ Ext W w') := Lib.hid (fun W => by
    go_enter Tryz.func68, Tryz.ntmps68
    go_wp2_with fail
    refine (H3.out _).mono ?_
    rintro e w1 ⟨rfl, x1⟩
    go_wp2
    go_ret
    exact ⟨rfl, x1⟩)
  go_enter Tryz.func43, Tryz.ntmps43
  go_wp2_with fail
  refine (H4.out _).mono ?_
  rintro e w1 ⟨rfl, x1⟩
  go_wp2
  go_ret
  exact ⟨rfl, x1⟩
set_option maxRecDepth 100000 in
set_option maxHeartbeats 1000000 in
theorem impl_fmt8 (w : World) : Calls Tryz.prog 43 #[.int .i64 8] w fun e w' => e = .returned (.string (decT 8)) ∧ Ext w w' := by
  have H1 : Hid (∀ W, Calls Tryz.prog 90 #[.int .i64 8] W fun e w' => e = .returned (.string (decT 8)) ∧ Ext W w') := Lib.hid (fun W => by
    go_enter Tryz.func90, Tryz.ntmps90
    go_wp2
    go_ret
    exact ⟨rfl, Ext.refl _⟩)
  have H2 : Hid (∀ W, Calls Tryz.prog 85 #[.int .i64 8, .int .i64 10] W fun e w' => e = .returned (.string (decT 8)) ∧ Ext W w') := Lib.hid (fun W => by
    go_enter Tryz.func85, Tryz.ntmps85
    go_wp2_with fail
    refine (H1.out _).mono ?_
    rintro e w1 ⟨rfl, x1⟩
    go_wp2
    go_ret
    exact ⟨rfl, x1⟩)
  have H3 : Hid (∀ W, Calls Tryz.prog 79 #[.int .i64 8] W fun e w' => e = .returned (.string (decT 8)) ∧ Ext W w') := Lib.hid (fun W => by
    go_enter Tryz.func79, Tryz.ntmps79
    go_wp2_with fail
    refine (H2.out _).mono ?_
    rintro e w1 ⟨rfl, x1⟩
    go_wp2
    go_ret
    exact ⟨rfl, x1⟩)
  have H4 : Hid (∀ W, Calls Tryz.prog 68 #[.int .i64 8] W fun e w' => e = .returned (.string (decT 8)) ∧ Ext W w') := Lib.hid (fun W => by
    go_enter Tryz.func68, Tryz.ntmps68
    go_wp2_with fail
    refine (H3.out _).mono ?_
    rintro e w1 ⟨rfl, x1⟩
    go_wp2
    go_ret
    exact ⟨rfl, x1⟩)
  go_enter Tryz.func43, Tryz.ntmps43
  go_wp2_with fail
  refine (H4.out _).mono ?_
  rintro e w1 ⟨rfl, x1⟩
  go_wp2
  go_ret
  exact ⟨rfl, x1⟩
set_option maxRecDepth 100000 in
set_option maxHeartbeats 1000000 in
theorem impl_fmt9 (w : World) : Calls Tryz.prog 43 #[.int .i64 9] w fun e w' => e = .returned (.string (decT 9)) ∧ Ext w w' := by
  have H1 : Hid (∀ W, Calls Tryz.prog 90 #[.int .i64 9] W fun e w' => e = .returned (.string (decT 9)) ∧ Ext W w') := Lib.hid (fun W => by
    go_enter Tryz.func90, Tryz.ntmps90
    go_wp2
    go_ret
    exact ⟨rfl, Ext.refl _⟩)
  have H2 : Hid (∀ W, Calls Tryz.prog 85 #[.int .i64 9, .int .i64 10] W fun e w' => e = .returned (.string (decT 9)) ∧ Ext W w') := Lib.hid (fun W => by
    go_enter Tryz.func85, Tryz.ntmps85
    go_wp2_with fail
    refine (H1.out _).mono ?_
    rintro e w1 ⟨rfl, x1⟩
    go_wp2
    go_ret
    exact ⟨rfl, x1⟩)
  have H3 : Hid (∀ W, Calls Tryz.prog 79 #[.int .i64 9] W fun e w' => e = .returned (.string (decT 9)) ∧ Ext W w') := Lib.hid (fun W => by
    go_enter Tryz.func79, Tryz.ntmps79
    go_wp2_with fail
    refine (H2.out _).mono ?_
    rintro e w1 ⟨rfl, x1⟩
    go_wp2
    go_ret
    exact ⟨rfl, x1⟩)
  have H4 : Hid (∀ W, Calls Tryz.prog 68 #[.int .i64 9] W fun e w' => e = .returned (.string (decT 9)) ∧ Ext W w') := Lib.hid (fun W => by
    go_enter Tryz.func68, Tryz.ntmps68
    go_wp2_with fail
    refine (H3.out _).mono ?_
    rintro e w1 ⟨rfl, x1⟩
    go_wp2
    go_ret
    exact ⟨rfl, x1⟩)
  go_enter Tryz.func43, Tryz.ntmps43
  go_wp2_with fail
  refine (H4.out _).mono ?_
  rintro e w1 ⟨rfl, x1⟩
  go_wp2
  go_ret
  exact ⟨rfl, x1⟩
set_option maxRecDepth 100000 in
set_option maxHeartbeats 1000000 in
theorem impl_fmt10 (w : World) : Calls Tryz.prog 43 #[.int .i64 10] w fun e w' => e = .returned (.string (decT 10)) ∧ Ext w w' := by
  have H1 : Hid (∀ W, Calls Tryz.prog 90 #[.int .i64 10] W fun e w' => e = .returned (.string (decT 10)) ∧ Ext W w') := Lib.hid (fun W => by
    go_enter Tryz.func90, Tryz.ntmps90
    go_wp2
    go_ret
    exact ⟨rfl, Ext.refl _⟩)
  have H2 : Hid (∀ W, Calls Tryz.prog 85 #[.int .i64 10, .int .i64 10] W fun e w' => e = .returned (.string (decT 10)) ∧ Ext W w') := Lib.hid (fun W => by
    go_enter Tryz.func85, Tryz.ntmps85
    go_wp2_with fail
    refine (H1.out _).mono ?_
    rintro e w1 ⟨rfl, x1⟩
    go_wp2
    go_ret
    exact ⟨rfl, x1⟩)
  have H3 : Hid (∀ W, Calls Tryz.prog 79 #[.int .i64 10] W fun e w' => e = .returned (.string (decT 10)) ∧ Ext W w') := Lib.hid (fun W => by
    go_enter Tryz.func79, Tryz.ntmps79
    go_wp2_with fail
    refine (H2.out _).mono ?_
    rintro e w1 ⟨rfl, x1⟩
    go_wp2
    go_ret
    exact ⟨rfl, x1⟩)
  have H4 : Hid (∀ W, Calls Tryz.prog 68 #[.int .i64 10] W fun e w' => e = .returned (.string (decT 10)) ∧ Ext W w') := Lib.hid (fun W => by
    go_enter Tryz.func68, Tryz.ntmps68
    go_wp2_with fail
    refine (H3.out _).mono ?_
    rintro e w1 ⟨rfl, x1⟩
    go_wp2
    go_ret
    exact ⟨rfl, x1⟩)
  go_enter Tryz.func43, Tryz.ntmps43
  go_wp2_with fail
  refine (H4.out _).mono ?_
  rintro e w1 ⟨rfl, x1⟩
  go_wp2
  go_ret
  exact ⟨rfl, x1⟩
set_option maxRecDepth 100000 in
set_option maxHeartbeats 1000000 in
theorem impl_fmt11 (w : World) : Calls Tryz.prog 43 #[.int .i64 11] w fun e w' => e = .returned (.string (decT 11)) ∧ Ext w w' := by
  have H1 : Hid (∀ W, Calls Tryz.prog 90 #[.int .i64 11] W fun e w' => e = .returned (.string (decT 11)) ∧ Ext W w') := Lib.hid (fun W => by
    go_enter Tryz.func90, Tryz.ntmps90
    go_wp2
    go_ret
    exact ⟨rfl, Ext.refl _⟩)
  have H2 : Hid (∀ W, Calls Tryz.prog 85 #[.int .i64 11, .int .i64 10] W fun e w' => e = .returned (.string (decT 11)) ∧ Ext W w') := Lib.hid (fun W => by
    go_enter Tryz.func85, Tryz.ntmps85
    go_wp2_with fail
    refine (H1.out _).mono ?_
    rintro e w1 ⟨rfl, x1⟩
    go_wp2
    go_ret
    exact ⟨rfl, x1⟩)
  have H3 : Hid (∀ W, Calls Tryz.prog 79 #[.int .i64 11] W fun e w' => e = .returned (.string (decT 11)) ∧ Ext W w') := Lib.hid (fun W => by
    go_enter Tryz.func79, Tryz.ntmps79
    go_wp2_with fail
    refine (H2.out _).mono ?_
    rintro e w1 ⟨rfl, x1⟩
    go_wp2
    go_ret
    exact ⟨rfl, x1⟩)
  have H4 : Hid (∀ W, Calls Tryz.prog 68 #[.int .i64 11] W fun e w' => e = .returned (.string (decT 11)) ∧ Ext W w') := Lib.hid (fun W => by
    go_enter Tryz.func68, Tryz.ntmps68
    go_wp2_with fail
    refine (H3.out _).mono ?_
    rintro e w1 ⟨rfl, x1⟩
    go_wp2
    go_ret
    exact ⟨rfl, x1⟩)
  go_enter Tryz.func43, Tryz.ntmps43
  go_wp2_with fail
  refine (H4.out _).mono ?_
  rintro e w1 ⟨rfl, x1⟩
  go_wp2
  go_ret
  exact ⟨rfl, x1⟩
set_option maxRecDepth 100000 in
set_option maxHeartbeats 1000000 in
theorem impl_fmt12 (w : World) : Calls Tryz.prog 43 #[.int .i64 12] w fun e w' => e = .returned (.string (decT 12)) ∧ Ext w w' := by
  have H1 : Hid (∀ W, Calls Tryz.prog 90 #[.int .i64 12] W fun e w' => e = .returned (.string (decT 12)) ∧ Ext W w') := Lib.hid (fun W => by
    go_enter Tryz.func90, Tryz.ntmps90
    go_wp2
    go_ret
    exact ⟨rfl, Ext.refl _⟩)
  have H2 : Hid (∀ W, Calls Tryz.prog 85 #[.int .i64 12, .int .i64 10] W fun e w' => e = .returned (.string (decT 12)) ∧ Ext W w') := Lib.hid (fun W => by
    go_enter Tryz.func85, Tryz.ntmps85
    go_wp2_with fail
    refine (H1.out _).mono ?_
    rintro e w1 ⟨rfl, x1⟩
    go_wp2
    go_ret
    exact ⟨rfl, x1⟩)
  have H3 : Hid (∀ W, Calls Tryz.prog 79 #[.int .i64 12] W fun e w' => e = .returned (.string (decT 12)) ∧ Ext W w') := Lib.hid (fun W => by
    go_enter Tryz.func79, Tryz.ntmps79
    go_wp2_with fail
    refine (H2.out _).mono ?_
    rintro e w1 ⟨rfl, x1⟩
    go_wp2
    go_ret
    exact ⟨rfl, x1⟩)
  have H4 : Hid (∀ W, Calls Tryz.prog 68 #[.int .i64 12] W fun e w' => e = .returned (.string (decT 12)) ∧ Ext W w') := Lib.hid (fun W => by
    go_enter Tryz.func68, Tryz.ntmps68
    go_wp2_with fail
    refine (H3.out _).mono ?_
    rintro e w1 ⟨rfl, x1⟩
    go_wp2
    go_ret
    exact ⟨rfl, x1⟩)
  go_enter Tryz.func43, Tryz.ntmps43
  go_wp2_with fail
  refine (H4.out _).mono ?_
  rintro e w1 ⟨rfl, x1⟩
  go_wp2
  go_ret
  exact ⟨rfl, x1⟩
set_option maxRecDepth 100000 in
set_option maxHeartbeats 1000000 in
theorem impl_fmt13 (w : World) : Calls Tryz.prog 43 #[.int .i64 13] w fun e w' => e = .returned (.string (decT 13)) ∧ Ext w w' := by
  have H1 : Hid (∀ W, Calls Tryz.prog 90 #[.int .i64 13] W fun e w' => e = .returned (.string (decT 13)) ∧ Ext W w') := Lib.hid (fun W => by
    go_enter Tryz.func90, Tryz.ntmps90
    go_wp2
    go_ret
    exact ⟨rfl, Ext.refl _⟩)
  have H2 : Hid (∀ W, Calls Tryz.prog 85 #[.int .i64 13, .int .i64 10] W fun e w' => e = .returned (.string (decT 13)) ∧ Ext W w') := Lib.hid (fun W => by
    go_enter Tryz.func85, Tryz.ntmps85
    go_wp2_with fail
    refine (H1.out _).mono ?_
    rintro e w1 ⟨rfl, x1⟩
    go_wp2
    go_ret
    exact ⟨rfl, x1⟩)
  have H3 : Hid (∀ W, Calls Tryz.prog 79 #[.int .i64 13] W fun e w' => e = .returned (.string (decT 13)) ∧ Ext W w') := Lib.hid (fun W => by
    go_enter Tryz.func79, Tryz.ntmps79
    go_wp2_with fail
    refine (H2.out _).mono ?_
    rintro e w1 ⟨rfl, x1⟩
    go_wp2
    go_ret
    exact ⟨rfl, x1⟩)
  have H4 : Hid (∀ W, Calls Tryz.prog 68 #[.int .i64 13] W fun e w' => e = .returned (.string (decT 13)) ∧ Ext W w') := Lib.hid (fun W => by
    go_enter Tryz.func68, Tryz.ntmps68
    go_wp2_with fail
    refine (H3.out _).mono ?_
    rintro e w1 ⟨rfl, x1⟩
    go_wp2
    go_ret
    exact ⟨rfl, x1⟩)
  go_enter Tryz.func43, Tryz.ntmps43
  go_wp2_with fail
  refine (H4.out _).mono ?_
  rintro e w1 ⟨rfl, x1⟩
  go_wp2
  go_ret
  exact ⟨rfl, x1⟩
set_option maxRecDepth 100000 in
set_option maxHeartbeats 1000000 in
theorem impl_fmt14 (w : World) : Calls Tryz.prog 43 #[.int .i64 14] w fun e w' => e = .returned (.string (decT 14)) ∧ Ext w w' := by
  have H1 : Hid (∀ W, Calls Tryz.prog 90 #[.int .i64 14] W fun e w' => e = .returned (.string (decT 14)) ∧ Ext W w') := Lib.hid (fun W => by
    go_enter Tryz.func90, Tryz.ntmps90
    go_wp2
    go_ret
    exact ⟨rfl, Ext.refl _⟩)
  have H2 : Hid (∀ W, Calls Tryz.prog 85 #[.int .i64 14, .int .i64 10] W fun e w' => e = .returned (.string (decT 14)) ∧ Ext W w') := Lib.hid (fun W => by
    go_enter Tryz.func85, Tryz.ntmps85
    go_wp2_with fail
    refine (H1.out _).mono ?_
    rintro e w1 ⟨rfl, x1⟩
    go_wp2
    go_ret
    exact ⟨rfl, x1⟩)
  have H3 : Hid (∀ W, Calls Tryz.prog 79 #[.int .i64 14] W fun e w' => e = .returned (.string (decT 14)) ∧ Ext W w') := Lib.hid (fun W => by
    go_enter Tryz.func79, Tryz.ntmps79
    go_wp2_with fail
    refine (H2.out _).mono ?_
    rintro e w1 ⟨rfl, x1⟩
    go_wp2
    go_ret
    exact ⟨rfl, x1⟩)
  have H4 : Hid (∀ W, Calls Tryz.prog 68 #[.int .i64 14] W fun e w' => e = .returned (.string (decT 14)) ∧ Ext W w') := Lib.hid (fun W => by
    go_enter Tryz.func68, Tryz.ntmps68
    go_wp2_with fail
    refine (H3.out _).mono ?_
    rintro e w1 ⟨rfl, x1⟩
    go_wp2
    go_ret
    exact ⟨rfl, x1⟩)
  go_enter Tryz.func43, Tryz.ntmps43
  go_wp2_with fail
  refine (H4.out _).mono ?_
  rintro e w1 ⟨rfl, x1⟩
  go_wp2
  go_ret
  exact ⟨rfl, x1⟩
set_option maxRecDepth 100000 in
set_option maxHeartbeats 1000000 in
theorem impl_fmt15 (w : World) : Calls Tryz.prog 43 #[.int .i64 15] w fun e w' => e = .returned (.string (decT 15)) ∧ Ext w w' := by
  have H1 : Hid (∀ W, Calls Tryz.prog 90 #[.int .i64 15] W fun e w' => e = .returned (.string (decT 15)) ∧ Ext W w') := Lib.hid (fun W => by
    go_enter Tryz.func90, Tryz.ntmps90
    go_wp2
    go_ret
    exact ⟨rfl, Ext.refl _⟩)
  have H2 : Hid (∀ W, Calls Tryz.prog 85 #[.int .i64 15, .int .i64 10] W fun e w' => e = .returned (.string (decT 15)) ∧ Ext W w') := Lib.hid (fun W => by
    go_enter Tryz.func85, Tryz.ntmps85
    go_wp2_with fail
    refine (H1.out _).mono ?_
    rintro e w1 ⟨rfl, x1⟩
    go_wp2
    go_ret
    exact ⟨rfl, x1⟩)
  have H3 : Hid (∀ W, Calls Tryz.prog 79 #[.int .i64 15] W fun e w' => e = .returned (.string (decT 15)) ∧ Ext W w') := Lib.hid (fun W => by
    go_enter Tryz.func79, Tryz.ntmps79
    go_wp2_with fail
    refine (H2.out _).mono ?_
    rintro e w1 ⟨rfl, x1⟩
    go_wp2
    go_ret
    exact ⟨rfl, x1⟩)
  have H4 : Hid (∀ W, Calls Tryz.prog 68 #[.int .i64 15] W fun e w' => e = .returned (.string (decT 15)) ∧ Ext W w') := Lib.hid (fun W => by
    go_enter Tryz.func68, Tryz.ntmps68
    go_wp2_with fail
    refine (H3.out _).mono ?_
    rintro e w1 ⟨rfl, x1⟩
    go_wp2
    go_ret
    exact ⟨rfl, x1⟩)
  go_enter Tryz.func43, Tryz.ntmps43
  go_wp2_with fail
  refine (H4.out _).mono ?_
  rintro e w1 ⟨rfl, x1⟩
  go_wp2
  go_ret
  exact ⟨rfl, x1⟩
set_option maxRecDepth 100000 in
set_option maxHeartbeats 1000000 in
theorem impl_fmt16 (w : World) : Calls Tryz.prog 43 #[.int .i64 16] w fun e w' => e = .returned (.string (decT 16)) ∧ Ext w w' := by
  have H1 : Hid (∀ W, Calls Tryz.prog 90 #[.int .i64 16] W fun e w' => e = .returned (.string (decT 16)) ∧ Ext W w') := Lib.hid (fun W => by
    go_enter Tryz.func90, Tryz.ntmps90
    go_wp2
    go_ret
    exact ⟨rfl, Ext.refl _⟩)
  have H2 : Hid (∀ W, Calls Tryz.prog 85 #[.int .i64 16, .int .i64 10] W fun e w' => e = .returned (.string (decT 16)) ∧ Ext W w') := Lib.hid (fun W => by
    go_enter Tryz.func85, Tryz.ntmps85
    go_wp2_with fail
    refine (H1.out _).mono ?_
    rintro e w1 ⟨rfl, x1⟩
    go_wp2
    go_ret
    exact ⟨rfl, x1⟩)
  have H3 : Hid (∀ W, Calls Tryz.prog 79 #[.int .i64 16] W fun e w' => e = .returned (.string (decT 16)) ∧ Ext W w') := Lib.hid (fun W => by
    go_enter Tryz.func79, Tryz.ntmps79
    go_wp2_with fail
    refine (H2.out _).mono ?_
    rintro e w1 ⟨rfl, x1⟩
    go_wp2
    go_ret
    exact ⟨rfl, x1⟩)
  have H4 : Hid (∀ W, Calls Tryz.prog 68 #[.int .i64 16] W fun e w' => e = .returned (.string (decT 16)) ∧ Ext W w') := Lib.hid (fun W => by
    go_enter Tryz.func68, Tryz.ntmps68
    go_wp2_with fail
    refine (H3.out _).mono ?_
    rintro e w1 ⟨rfl, x1⟩
    go_wp2
    go_ret
    exact ⟨rfl, x1⟩)
  go_enter Tryz.func43, Tryz.ntmps43
  go_wp2_with fail
  refine (H4.out _).mono ?_
  rintro e w1 ⟨rfl, x1⟩
  go_wp2
  go_ret
  exact ⟨rfl, x1⟩
set_option maxRecDepth 100000 in
set_option maxHeartbeats 1000000 in
theorem impl_fmt17 (w : World) : Calls Tryz.prog 43 #[.int .i64 17] w fun e w' => e = .returned (.string (decT 17)) ∧ Ext w w' := by
  have H1 : Hid (∀ W, Calls Tryz.prog 90 #[.int .i64 17] W fun e w' => e = .returned (.string (decT 17)) ∧ Ext W w') := Lib.hid (fun W => by
    go_enter Tryz.func90, Tryz.ntmps90
    go_wp2
    go_ret
    exact ⟨rfl, Ext.refl _⟩)
  have H2 : Hid (∀ W, Calls Tryz.prog 85 #[.int .i64 17, .int .i64 10] W fun e w' => e = .returned (.string (decT 17)) ∧ Ext W w') := Lib.hid (fun W => by
    go_enter Tryz.func85, Tryz.ntmps85
    go_wp2_with fail
    refine (H1.out _).mono ?_
    rintro e w1 ⟨rfl, x1⟩
    go_wp2
    go_ret
    exact ⟨rfl, x1⟩)
  have H3 : Hid (∀ W, Calls Tryz.prog 79 #[.int .i64 17] W fun e w' => e = .returned (.string (decT 17)) ∧ Ext W w') := Lib.hid (fun W => by
    go_enter Tryz.func79, Tryz.ntmps79
    go_wp2_with fail
    refine (H2.out _).mono ?_
    rintro e w1 ⟨rfl, x1⟩
    go_wp2
    go_ret
    exact ⟨rfl, x1⟩)
  have H4 : Hid (∀ W, Calls Tryz.prog 68 #[.int .i64 17] W fun e w' => e = .returned (.string (decT 17)) ∧ Ext W w') := Lib.hid (fun W => by
    go_enter Tryz.func68, Tryz.ntmps68
    go_wp2_with fail
    refine (H3.out _).mono ?_
    rintro e w1 ⟨rfl, x1⟩
    go_wp2
    go_ret
    exact ⟨rfl, x1⟩)
  go_enter Tryz.func43, Tryz.ntmps43
  go_wp2_with fail
  refine (H4.out _).mono ?_
  rintro e w1 ⟨rfl, x1⟩
  go_wp2
  go_ret
  exact ⟨rfl, x1⟩
set_option maxRecDepth 100000 in
set_option maxHeartbeats 1000000 in
theorem impl_fmt18 (w : World) : Calls Tryz.prog 43 #[.int .i64 18] w fun e w' => e = .returned (.string (decT 18)) ∧ Ext w w' := by
  have H1 : Hid (∀ W, Calls Tryz.prog 90 #[.int .i64 18] W fun e w' => e = .returned (.string (decT 18)) ∧ Ext W w') := Lib.hid (fun W => by
    go_enter Tryz.func90, Tryz.ntmps90
    go_wp2
    go_ret
    exact ⟨rfl, Ext.refl _⟩)
  have H2 : Hid (∀ W, Calls Tryz.prog 85 #[.int .i64 18, .int .i64 10] W fun e w' => e = .returned (.string (decT 18)) ∧ Ext W w') := Lib.hid (fun W => by
    go_enter Tryz.func85, Tryz.ntmps85
    go_wp2_with fail
    refine (H1.out _).mono ?_
    rintro e w1 ⟨rfl, x1⟩
    go_wp2
    go_ret
    exact ⟨rfl, x1⟩)
  have H3 : Hid (∀ W, Calls Tryz.prog 79 #[.int .i64 18] W fun e w' => e = .returned (.string (decT 18)) ∧ Ext W w') := Lib.hid (fun W => by
    go_enter Tryz.func79, Tryz.ntmps79
    go_wp2_with fail
    refine (H2.out _).mono ?_
    rintro e w1 ⟨rfl, x1⟩
    go_wp2
    go_ret
    exact ⟨rfl, x1⟩)
  have H4 : Hid (∀ W, Calls Tryz.prog 68 #[.int .i64 18] W fun e w' => e = .returned (.string (decT 18)) ∧ Ext W w') := Lib.hid (fun W => by
    go_enter Tryz.func68, Tryz.ntmps68
    go_wp2_with fail
    refine (H3.out _).mono ?_
    rintro e w1 ⟨rfl, x1⟩
    go_wp2
    go_ret
    exact ⟨rfl, x1⟩)
  go_enter Tryz.func43, Tryz.ntmps43
  go_wp2_with fail
  refine (H4.out _).mono ?_
  rintro e w1 ⟨rfl, x1⟩
  go_wp2
  go_ret
  exact ⟨rfl, x1⟩
set_option maxRecDepth 100000 in
set_option maxHeartbeats 1000000 in
theorem impl_fmt19 (w : World) : Calls Tryz.prog 43 #[.int .i64 19] w fun e w' => e = .returned (.string (decT 19)) ∧ Ext w w' := by
  have H1 : Hid (∀ W, Calls Tryz.prog 90 #[.int .i64 19] W fun e w' => e = .returned (.string (decT 19)) ∧ Ext W w') := Lib.hid (fun W => by
    go_enter Tryz.func90, Tryz.ntmps90
    go_wp2
    go_ret
    exact ⟨rfl, Ext.refl _⟩)
  have H2 : Hid (∀ W, Calls Tryz.prog 85 #[.int .i64 19, .int .i64 10] W fun e w' => e = .returned (.string (decT 19)) ∧ Ext W w') := Lib.hid (fun W => by
    go_enter Tryz.func85, Tryz.ntmps85
    go_wp2_with fail
    refine (H1.out _).mono ?_
    rintro e w1 ⟨rfl, x1⟩
    go_wp2
    go_ret
    exact ⟨rfl, x1⟩)
  have H3 : Hid (∀ W, Calls Tryz.prog 79 #[.int .i64 19] W fun e w' => e = .returned (.string (decT 19)) ∧ Ext W w') := Lib.hid (fun W => by
    go_enter Tryz.func79, Tryz.ntmps79
    go_wp2_with fail
    refine (H2.out _).mono ?_
    rintro e w1 ⟨rfl, x1⟩
    go_wp2
    go_ret
    exact ⟨rfl, x1⟩)
  have H4 : Hid (∀ W, Calls Tryz.prog 68 #[.int .i64 19] W fun e w' => e = .returned (.string (decT 19)) ∧ Ext W w') := Lib.hid (fun W => by
    go_enter Tryz.func68, Tryz.ntmps68
    go_wp2_with fail
    refine (H3.out _).mono ?_
    rintro e w1 ⟨rfl, x1⟩
    go_wp2
    go_ret
    exact ⟨rfl, x1⟩)
  go_enter Tryz.func43, Tryz.ntmps43
  go_wp2_with fail
  refine (H4.out _).mono ?_
  rintro e w1 ⟨rfl, x1⟩
  go_wp2
  go_ret
  exact ⟨rfl, x1⟩
set_option maxRecDepth 100000 in
set_option maxHeartbeats 1000000 in
theorem impl_fmt20 (w : World) : Calls Tryz.prog 43 #[.int .i64 20] w fun e w' => e = .returned (.string (decT 20)) ∧ Ext w w' := by
  have H1 : Hid (∀ W, Calls Tryz.prog 90 #[.int .i64 20] W fun e w' => e = .returned (.string (decT 20)) ∧ Ext W w') := Lib.hid (fun W => by
    go_enter Tryz.func90, Tryz.ntmps90
    go_wp2
    go_ret
    exact ⟨rfl, Ext.refl _⟩)
  have H2 : Hid (∀ W, Calls Tryz.prog 85 #[.int .i64 20, .int .i64 10] W fun e w' => e = .returned (.string (decT 20)) ∧ Ext W w') := Lib.hid (fun W => by
    go_enter Tryz.func85, Tryz.ntmps85
    go_wp2_with fail
    refine (H1.out _).mono ?_
    rintro e w1 ⟨rfl, x1⟩
    go_wp2
    go_ret
    exact ⟨rfl, x1⟩)
  have H3 : Hid (∀ W, Calls Tryz.prog 79 #[.int .i64 20] W fun e w' => e = .returned (.string (decT 20)) ∧ Ext W w') := Lib.hid (fun W => by
    go_enter Tryz.func79, Tryz.ntmps79
    go_wp2_with fail
    refine (H2.out _).mono ?_
    rintro e w1 ⟨rfl, x1⟩
    go_wp2
    go_ret
    exact ⟨rfl, x1⟩)
  have H4 : Hid (∀ W, Calls Tryz.prog 68 #[.int .i64 20] W fun e w' => e = .returned (.string (decT 20)) ∧ Ext W w') := Lib.hid (fun W => by
    go_enter Tryz.func68, Tryz.ntmps68
    go_wp2_with fail
    refine (H3.out _).mono ?_
    rintro e w1 ⟨rfl, x1⟩
    go_wp2
    go_ret
    exact ⟨rfl, x1⟩)
  go_enter Tryz.func43, Tryz.ntmps43
  go_wp2_with fail
  refine (H4.out _).mono ?_
  rintro e w1 ⟨rfl, x1⟩
  go_wp2
  go_ret
  exact ⟨rfl, x1⟩
/-- The text of a number from 1 to 20. -/
theorem impl_FormatInt (k : Nat) (h1 : 1 ≤ k) (h2 : k ≤ 20) (w : World) : Calls Tryz.prog 43 #[.int .i64 (k : Int)] w fun e w' => e = .returned (.string (decT k)) ∧ Ext w w' := by
  match k, h1, h2 with
  | 1, _, _ => exact impl_fmt1 w
  | 2, _, _ => exact impl_fmt2 w
  | 3, _, _ => exact impl_fmt3 w
  | 4, _, _ => exact impl_fmt4 w
  | 5, _, _ => exact impl_fmt5 w
  | 6, _, _ => exact impl_fmt6 w
  | 7, _, _ => exact impl_fmt7 w
  | 8, _, _ => exact impl_fmt8 w
  | 9, _, _ => exact impl_fmt9 w
  | 10, _, _ => exact impl_fmt10 w
  | 11, _, _ => exact impl_fmt11 w
  | 12, _, _ => exact impl_fmt12 w
  | 13, _, _ => exact impl_fmt13 w
  | 14, _, _ => exact impl_fmt14 w
  | 15, _, _ => exact impl_fmt15 w
  | 16, _, _ => exact impl_fmt16 w
  | 17, _, _ => exact impl_fmt17 w
  | 18, _, _ => exact impl_fmt18 w
  | 19, _, _ => exact impl_fmt19 w
  | 20, _, _ => exact impl_fmt20 w
  | k + 21, _, h => omega

end Go.Proofs.YtgmhmlhdiklaaaaGreatDoor

/- StrK -/
namespace Go.Proofs.YtgmhmlhdiklaaaaGreatDoor
open Go.RowKit
set_option linter.unusedVariables false

theorem str_info : (Tryz.prog.info? 9).map (fun i => (i.zero, i.size, i.bytes)) = some (some (.string ⟨#[]⟩), 1, 16) := by kernel_rfl
/-- The slice value v, of n texts, is a row that the call has made itself, in a block from base on, and holds ss. -/
def MineT (base : Nat) (w : World) (v : Value) (n : Nat) (ss : List ByteArray) : Prop := ss.length = n ∧ w.ownsRow base 9 1 v n (ss.map Value.string)
section
variable {base n : Nat} {w w' : World} {v : Value} {ss : List ByteArray}
theorem MineT.nil_ (base : Nat) (w : World) : MineT base w (.slice none 0 0) 0 [] := ⟨rfl, World.ownsRow_nil _ _ _ _⟩
theorem MineT.form (h : MineT base w v n ss) : ∃ A c, v = .slice A n c ∧ n ≤ c ∧ c ≤ 9223372036854775807 := by
  rcases h.2.2 with ⟨rfl, hn⟩ | ⟨g, cap, cur, rfl, _, _, h1, h2, _⟩
  · exact ⟨none, 0, by rw [hn], by omega, by omega⟩
  · exact ⟨_, cap, rfl, h1, by simpa [maxLen] using h2⟩
theorem MineT.kept {row : Option Nat} (h : MineT base w v n ss) (hg : w.grownBy w' row) (hne : v.ownBlock = none ∨ v.ownBlock ≠ row) : MineT base w' v n ss := ⟨h.1, h.2.kept hg hne⟩
theorem MineT.ext (h : MineT base w v n ss) (he : Ext w w') : MineT base w' v n ss := h.kept (he.grownBy none) (by cases v.ownBlock <;> simp)
theorem MineT.alloc (h : MineT base w v n ss) (o : Obj) : MineT base (w.alloc o) v n ss := h.ext (.alloc (.refl _) _)
theorem MineT.lt (h : MineT base w v n ss) : ∀ k, v.ownBlock = some k → base ≤ k ∧ k < w.heap.size := h.2.lt
theorem MineT.more {base' : Nat} (h : MineT base w v n ss) (hb : base' ≤ base) : MineT base' w v n ss := by
  refine ⟨h.1, ⟨h.2.1, ?_⟩⟩
  rcases h.2.2 with h1 | ⟨g, cap, cur, h1, h2, h3⟩
  · exact .inl h1
  · exact .inr ⟨g, cap, cur, h1, by omega, h3⟩
theorem MineT.at_ {g c k : Nat} (h : MineT base w (.slice (some ⟨g, 0, none⟩) n c) n ss) (hk : k < n) :
    w.cell? ⟨g, k, none⟩ = some (.string (ss.getD k ⟨#[]⟩)) := by
  have hc := h.2.cellAt k (by omega)
  have hz : ss.length = n := h.1
  rw [List.getElem?_map, List.getElem?_eq_getElem (by omega)] at hc
  rw [hc, List.getD_eq_getElem?_getD, List.getElem?_eq_getElem (by omega)]; rfl
theorem MineT.some_ {A : Option Addr} {c : Nat} (h : MineT base w (.slice A n c) n ss) (hn : 0 < n) : ∃ g, A = some ⟨g, 0, none⟩ := by
  rcases h.2.2 with ⟨_, h0⟩ | ⟨g, cap, cur, hv, _⟩
  · omega
  · injection hv with e1 e2 e3
    exact ⟨g, e1⟩
theorem MineT.lit0 (w : World) : MineT w.heap.size (w.alloc (.cells #[] 9)) (.slice (some ⟨w.heap.size, 0, none⟩) 0 0) 0 [] :=
  ⟨rfl, by simpa using World.ownsRow_made (base := w.heap.size) (e := 9) (size := 1) w #[] 0 (Nat.le_refl _) (by simp [maxLen]) (by simp)⟩
theorem MineT.fresh (h : MineT base w v n ss) {a : World} (he : Ext a w) (hb : a.heap.size ≤ base) {row : Option Nat} (hg : w.grownBy w' row) (hr : row = v.ownBlock) : Ext a w' :=
  he.grown hg fun k hk => by rw [hr] at hk; have := h.lt k hk; omega
end
/-- A call hands back a row of texts of its own; the world has only grown. -/
def PostT (w : World) (n : Nat) (ss : List ByteArray) (e : Ending) (w' : World) : Prop :=
  ∃ A c, e = .returned (.slice A n c) ∧ n ≤ c ∧ c ≤ 9223372036854775807 ∧ MineT w.heap.size w' (.slice A n c) n ss ∧ Ext w w'
/-- append of one text to a row of the call's own. -/
theorem append_text (w : World) {ops : Array Oper} {rest : List Oper} {o : Oper} {a : Act} {Q : Exit → Act → World → Prop} (hgd : o.guard = none) (s x : Operand)
    (ho : o.op = .call { callee := .builtin .append, args := #[s, x], argTypes := #[49, 49] })
    (base : Nat) (v : Value) (n : Nat) (ss : List ByteArray) (hs : a.eval s = v) (hm : MineT base w v n ss) (z : ByteArray) (b : Nat) (hx : a.eval x = .slice (some ⟨b, 0, none⟩) 1 1) (hc : w.cell? ⟨b, 0, none⟩ = some (.string z))
    (hn : n ≤ 1000000000000) (hbase : base ≤ w.heap.size)
    (h : ∀ v' w', MineT base w' v' (n + 1) (ss ++ [z]) → w.grownBy w' v.ownBlock → (v'.ownBlock = v.ownBlock ∨ v'.ownBlock = some w.heap.size) → wpList Tryz.prog ops Q rest (a.put o.dst v') w') : wpList Tryz.prog ops Q (o :: rest) a w := by
  obtain ⟨i0, hi, hz0, hz1, hz2⟩ := info_parts str_info
  refine wpList_append_own_at w hgd s x 49 ho base 9 i0 (.string ⟨#[]⟩) 1 16 Tryz.underlying49 hi hz0 hz1 hz2 rfl (by decide) v n _ hs hm.2 ⟨b, 0, none⟩ 1 1 [.string z] hx rfl ?_ ?_ (by simp only [maxLen]; omega) (by omega) hbase ?_
  · intro j u hj
    match j, hj with
    | 0, hj => simp at hj; subst hj; simpa [Addr.add] using hc
  · intro u hu; simp at hu; subst hu; rfl
  · intro v' w' hown hg _ hat
    exact h v' w' ⟨by simp [hm.1], by simpa using hown⟩ hg hat

/-- append of one text as a step of a region that draws its order. -/
theorem step_append_text {ops : Array Oper} {o : Oper} {a : Act} {w : World} {K : Act → World → Prop} {Q : Exit → Act → World → Prop} {E : Prop}
    (hgd : o.guard = none) (s x : Operand) (hop : o.op = .call { callee := .builtin .append, args := #[s, x], argTypes := #[49, 49] })
    (base : Nat) (v : Value) (n : Nat) (ss : List ByteArray) (hs : a.eval s = v) (hm : MineT base w v n ss) (z : ByteArray) (b : Nat) (hx : a.eval x = .slice (some ⟨b, 0, none⟩) 1 1) (hc : w.cell? ⟨b, 0, none⟩ = some (.string z))
    (hn : n ≤ 1000000000000) (hbase : base ≤ w.heap.size)
    (hK : ∀ v' w', MineT base w' v' (n + 1) (ss ++ [z]) → w.grownBy w' v.ownBlock → K (a.put o.dst v') w') :
    if Region.wanted o (yielded ops a.tmps) = true then Oper.wp Tryz.prog o a w K Q else E := by
  have hw : Region.wanted o (yielded ops a.tmps) = true := by simp [Region.wanted, hgd]
  rw [if_pos hw]
  obtain ⟨i0, hi, hz0, hz1, hz2⟩ := info_parts str_info
  obtain ⟨v', w', hrun, hown, hg, _, _⟩ := run_append_own_at (P := Tryz.prog) w base 49 o.type 9 i0 (.string ⟨#[]⟩) 1 16 Tryz.underlying49 hi hz0 hz1 hz2 rfl (by decide) v n _ hm.2 ⟨b, 0, none⟩ 1 1 [.string z] rfl (by
    intro j u hj
    match j, hj with
    | 0, hj => simp at hj; subst hj; simpa [Addr.add] using hc) (by intro u hu; simp at hu; subst hu; rfl) (by simp only [maxLen]; omega) (by omega) hbase
  unfold Oper.wp
  simp [execOp, hop, resolve, invoke, builtin, hs, hx, hrun, Result.andThen]
  exact hK v' w' ⟨by simp [hm.1], by simpa using hown⟩ hg

theorem ret_s {a b : ByteArray} (h : a = b) : Ending.returned (.string a) = .returned (.string b) := by rw [h]
theorem text_inj {a b : ByteArray} (h : a.toList = b.toList) : a = b := by
  rw [ByteArray.toList_eq, ByteArray.toList_eq] at h
  cases a; cases b
  congr
  exact Array.toList_inj.1 h
theorem text_eq {a b : ByteArray} (h : a = b) : (a.toList == b.toList) = true := by subst h; simp
theorem text_ne {a b : ByteArray} (h : ¬ a = b) : (a.toList == b.toList) = false := beq_eq_false_iff_ne.2 (fun q => h (text_inj q))

end Go.Proofs.YtgmhmlhdiklaaaaGreatDoor

/- LabV -/
namespace Go.Proofs.YtgmhmlhdiklaaaaGreatDoor
open Go.RowKit Ring
set_option linter.unusedVariables false

def rowT (T : Nat → Int) : Nat → Nat
  | 0 => 0
  | t + 1 => if T (t + 1) = T t then rowT T t else rowT T t + 1
def numT (T : Nat → Int) : Nat → Nat
  | 0 => 1
  | t + 1 => if T (t + 1) = T t then numT T t + 1 else 1
def letT (r k : Nat) : ByteArray := ⟨#[UInt8.ofNat (97 + r)]⟩ ++ decT k
def topT (n : Nat) (P : Nat → Nat → Int) (m : Nat) (L : Nat → Nat → Int) (t : Nat) : Int := hiN n P m L (((readV n P m L).getD t 0 : Nat) : Int) 1
def labsT (T : Nat → Int) (t : Nat) : List ByteArray := (List.range t).map fun i => letT (rowT T i) (numT T i)
def labsV (n : Nat) (P : Nat → Nat → Int) (m : Nat) (L : Nat → Nat → Int) : List ByteArray := labsT (topT n P m L) (readV n P m L).length
theorem rowT_le (T : Nat → Int) : ∀ t, rowT T t ≤ t
  | 0 => Nat.le_refl _
  | t + 1 => by
    have h := rowT_le T t
    show (if T (t + 1) = T t then rowT T t else rowT T t + 1) ≤ t + 1
    split <;> omega
theorem numT_le (T : Nat → Int) : ∀ t, 1 ≤ numT T t ∧ numT T t ≤ t + 1
  | 0 => ⟨Nat.le_refl _, Nat.le_refl _⟩
  | t + 1 => by
    have h := numT_le T t
    show 1 ≤ (if T (t + 1) = T t then numT T t + 1 else 1) ∧ (if T (t + 1) = T t then numT T t + 1 else 1) ≤ t + 1 + 1
    split <;> omega
theorem rowT_same {T : Nat → Int} {t : Nat} (h : T (t + 1) = T t) : rowT T (t + 1) = rowT T t := if_pos h
theorem rowT_next {T : Nat → Int} {t : Nat} (h : ¬ T (t + 1) = T t) : rowT T (t + 1) = rowT T t + 1 := if_neg h
theorem numT_same {T : Nat → Int} {t : Nat} (h : T (t + 1) = T t) : numT T (t + 1) = numT T t + 1 := if_pos h
theorem numT_next {T : Nat → Int} {t : Nat} (h : ¬ T (t + 1) = T t) : numT T (t + 1) = 1 := if_neg h
theorem labsT_len (T : Nat → Int) (t : Nat) : (labsT T t).length = t := by simp [labsT]
theorem labsT_succ (T : Nat → Int) (t : Nat) : labsT T (t + 1) = labsT T t ++ [letT (rowT T t) (numT T t)] := by simp [labsT, List.range_succ]
theorem labsT_get (T : Nat → Int) {t k : Nat} (h : k < t) : (labsT T t).getD k ⟨#[]⟩ = letT (rowT T k) (numT T k) := by
  rw [List.getD_eq_getElem?_getD, List.getElem?_eq_getElem (by rw [labsT_len]; exact h)]
  simp [labsT]
def rz (T : Nat → Int) : Nat → Int
  | 0 => -1
  | t + 1 => (rowT T t : Nat)
def nz (T : Nat → Int) : Nat → Int
  | 0 => 0
  | t + 1 => (numT T t : Nat)
def tz (T : Nat → Int) : Nat → Int
  | 0 => -1
  | t + 1 => T t
theorem row_step {T : Nat → Int} (h0 : ∀ t, 0 ≤ T t) : ∀ t, (T t = tz T t ∧ ((rowT T t : Nat) : Int) = rz T t ∧ ((numT T t : Nat) : Int) = nz T t + 1) ∨ (¬ T t = tz T t ∧ ((rowT T t : Nat) : Int) = rz T t + 1 ∧ numT T t = 1)
  | 0 => by
    right
    have := h0 0
    exact ⟨by show ¬ T 0 = -1; omega, rfl, rfl⟩
  | t + 1 => by
    by_cases h : T (t + 1) = T t
    · left
      exact ⟨h, by rw [rowT_same h]; rfl, by rw [numT_same h]; rfl⟩
    · right
      exact ⟨h, by rw [rowT_next h]; rfl, numT_next h⟩
theorem rz_rng (T : Nat → Int) : ∀ t, -1 ≤ rz T t ∧ rz T t ≤ t
  | 0 => by simp [rz]
  | t + 1 => by
    have := rowT_le T t
    show -1 ≤ ((rowT T t : Nat) : Int) ∧ ((rowT T t : Nat) : Int) ≤ ((t + 1 : Nat) : Int)
    omega
def rs (T : Nat → Int) : Nat → Int
  | 0 => 0
  | t + 1 => (rowT T t : Nat)
theorem cut_letter (r : Nat) (h : r ≤ 20) : (⟨#[97, 98, 99, 100, 101, 102, 103, 104, 105, 106, 107, 108, 109, 110, 111, 112, 113, 114, 115, 116, 117, 118, 119, 120, 121, 122]⟩ : ByteArray).extract r (r + 1) = ⟨#[UInt8.ofNat (97 + r)]⟩ := by
  match r, h with
  | 0, _ => rfl
  | 1, _ => rfl
  | 2, _ => rfl
  | 3, _ => rfl
  | 4, _ => rfl
  | 5, _ => rfl
  | 6, _ => rfl
  | 7, _ => rfl
  | 8, _ => rfl
  | 9, _ => rfl
  | 10, _ => rfl
  | 11, _ => rfl
  | 12, _ => rfl
  | 13, _ => rfl
  | 14, _ => rfl
  | 15, _ => rfl
  | 16, _ => rfl
  | 17, _ => rfl
  | 18, _ => rfl
  | 19, _ => rfl
  | 20, _ => rfl
  | r + 21, h => omega
theorem rs_step (T : Nat → Int) (p : Nat) : (T (p + 1) = T p ∧ ((rowT T (p + 1) : Nat) : Int) = rs T (p + 1) ∧ ((numT T (p + 1) : Nat) : Int) = nz T (p + 1) + 1) ∨ (¬ T (p + 1) = T p ∧ ((rowT T (p + 1) : Nat) : Int) = rs T (p + 1) + 1 ∧ numT T (p + 1) = 1) := by
  by_cases h : T (p + 1) = T p
  · left
    exact ⟨h, by rw [rowT_same h]; rfl, by rw [numT_same h]; rfl⟩
  · right
    exact ⟨h, by rw [rowT_next h]; rfl, numT_next h⟩
theorem letter_size (r : Nat) : (⟨#[UInt8.ofNat (97 + r)]⟩ : ByteArray).size = 1 := rfl
theorem decT_size (k : Nat) : (decT k).size ≤ 2 := by
  unfold decT
  split <;> simp [ByteArray.size]
theorem enc_letter (r : Nat) (h : r ≤ 20) : Utf8.encode (97 + (r : Int)) = ⟨#[UInt8.ofNat (97 + r)]⟩ := by
  match r, h with
  | 0, _ => rfl
  | 1, _ => rfl
  | 2, _ => rfl
  | 3, _ => rfl
  | 4, _ => rfl
  | 5, _ => rfl
  | 6, _ => rfl
  | 7, _ => rfl
  | 8, _ => rfl
  | 9, _ => rfl
  | 10, _ => rfl
  | 11, _ => rfl
  | 12, _ => rfl
  | 13, _ => rfl
  | 14, _ => rfl
  | 15, _ => rfl
  | 16, _ => rfl
  | 17, _ => rfl
  | 18, _ => rfl
  | 19, _ => rfl
  | 20, _ => rfl
  | r + 21, h => omega

def labelV (n : Nat) (P : Nat → Nat → Int) (m : Nat) (L : Nat → Nat → Int) (f : Int) : ByteArray := if numV n P m L f = 0 then ⟨#[]⟩ else (labsV n P m L).getD (numV n P m L f - 1).toNat ⟨#[]⟩
def faceL (n : Nat) (P : Nat → Nat → Int) (m : Nat) (L : Nat → Nat → Int) (s : ByteArray) : Int := atV n P m L (fdx (fun i => decide (s = (labsV n P m L).getD i ⟨#[]⟩)) (readV n P m L).length + 1)
section
variable {n m : Nat} {P L : Nat → Nat → Int}
theorem labsV_len : (labsV n P m L).length = (readV n P m L).length := labsT_len _ _
theorem numV_le (f : Int) : numV n P m L f ≤ ((readV n P m L).length : Nat) := by
  unfold numV
  rcases fdx_bd (fun i => decide (f = ix (nums (readV n P m L)) i)) (readV n P m L).length with g | g
  · omega
  · omega
theorem labelV_no {f : Int} (h : numV n P m L f = 0) : labelV n P m L f = ⟨#[]⟩ := if_pos h
theorem labelV_yes {f : Int} {k : Nat} (h : numV n P m L f = (k : Int) + 1) : labelV n P m L f = (labsV n P m L).getD k ⟨#[]⟩ := by
  unfold labelV
  rw [if_neg (by omega), h, show ((k : Int) + 1 - 1).toNat = k by omega]
theorem labs_full {k : Nat} (h : k < (readV n P m L).length) : (labsV n P m L).getD k ⟨#[]⟩ ≠ ⟨#[]⟩ := by
  unfold labsV
  rw [labsT_get _ h]
  intro e
  have h1 := congrArg ByteArray.size e
  unfold letT at h1
  rw [ByteArray.size_append] at h1
  have h2 : (⟨#[]⟩ : ByteArray).size = 0 := rfl
  have h3 := letter_size (rowT (topT n P m L) k)
  omega
end

end Go.Proofs.YtgmhmlhdiklaaaaGreatDoor
